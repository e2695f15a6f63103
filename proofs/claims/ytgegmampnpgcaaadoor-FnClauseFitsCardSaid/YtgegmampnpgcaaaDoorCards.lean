/-
  DERIVED. GIVEN WITH THE SEED: THE CARDS: each row of YtgegmampnpgcaaaDoorRows.lean that lists a variable, with what it lists TIED to the program's text (the seventh form; the later family's looks); each row that meets fmt, with fmt's text TOLD by the authors' own Lean function (tested against real Go, not proved from fmt's source: count such statements apart). THE CARD IS WHAT COUNTS. Prove the row's statement (the work); the ties are given (YtgegmampnpgcaaaDoorTie.lean); close each card by the builder's one call (the guide's Derived/Test/ToyasCard.lean, 'card_holds'). Laid BY PROGRAM, IN A SANDBOX (cutbox-door.mjs). By AI agents, Wed Nov 11 2026. No macro, syntax, notation, axiom, sorry.
-/
import Derived.Test.YtgegmampnpgcaaaDoorRows
import GoSem.ClaimSeven
namespace Go.Proofs.YtgegmampnpgcaaaDoor
namespace Rows

/-- THE TIED CARD OF 'laws.FnClauseFits'. -/
def fnClauseFitsCard : Claim7 := { stood := { row := fnClauseFitsRow, standIns := [], harness := (true, "ad6f4574e242c200966fa263c0f482921cef53931d8b7d545a36b70ec36f26e8"), looks := true }, kinds := [], alts := [], laidByText := true, laidKinds := [.data, .data, .data, .sentinel], laidTests := true, laidLooks := .later }
def FnClauseFitsCardSaid : Prop := Claim7.holds Tryd.pinned (.plain (OpenSpec.ofChange fnClauseFitsSpec)) fnClauseFitsCard

/-- THE TIED CARD OF 'laws.FnPathForm'. -/
def fnPathFormCard : Claim7 := { stood := { row := fnPathFormRow, standIns := [], harness := (true, "ad6f4574e242c200966fa263c0f482921cef53931d8b7d545a36b70ec36f26e8"), looks := true }, kinds := [], alts := [], laidByText := true, laidKinds := [.data, .data, .data, .sentinel], laidTests := true, laidLooks := .later }
def FnPathFormCardSaid : Prop := Claim7.holds Tryd.pinned (.plain (OpenSpec.ofChange fnPathFormSpec)) fnPathFormCard

/-- THE TIED CARD OF 'laws.FnPathRest'. -/
def fnPathRestCard : Claim7 := { stood := { row := fnPathRestRow, standIns := [], harness := (true, "ad6f4574e242c200966fa263c0f482921cef53931d8b7d545a36b70ec36f26e8"), looks := true }, kinds := [], alts := [], laidByText := true, laidKinds := [.data, .data, .data, .sentinel], laidTests := true, laidLooks := .later }
def FnPathRestCardSaid : Prop := Claim7.holds Tryd.pinned (.plain (OpenSpec.ofChange fnPathRestSpec)) fnPathRestCard

/-- THE TIED CARD OF 'laws.FnPathTexts'. -/
def fnPathTextsCard : Claim7 := { stood := { row := fnPathTextsRow, standIns := [], harness := (true, "ad6f4574e242c200966fa263c0f482921cef53931d8b7d545a36b70ec36f26e8"), looks := true }, kinds := [], alts := [], laidByText := true, laidKinds := [.data, .data, .data, .sentinel], laidTests := true, laidLooks := .later }
def FnPathTextsCardSaid : Prop := Claim7.holds Tryd.pinned (.plain (OpenSpec.ofChange fnPathTextsSpec)) fnPathTextsCard

/-- THE TIED CARD OF 'laws.FnRouteCmp'. -/
def fnRouteCmpCard : Claim7 := { stood := { row := fnRouteCmpRow, standIns := [], harness := (true, "ad6f4574e242c200966fa263c0f482921cef53931d8b7d545a36b70ec36f26e8"), looks := true }, kinds := [], alts := [], laidByText := true, laidKinds := [.data, .data, .data, .sentinel], laidTests := true, laidLooks := .later }
def FnRouteCmpCardSaid : Prop := Claim7.holds Tryd.pinned (.plain (OpenSpec.ofChange fnRouteCmpSpec)) fnRouteCmpCard

/-- THE TIED CARD OF 'laws.FnRouteForm'. -/
def fnRouteFormCard : Claim7 := { stood := { row := fnRouteFormRow, standIns := [], harness := (true, "ad6f4574e242c200966fa263c0f482921cef53931d8b7d545a36b70ec36f26e8"), looks := true }, kinds := [], alts := [], laidByText := true, laidKinds := [.data, .data, .data, .sentinel], laidTests := true, laidLooks := .later }
def FnRouteFormCardSaid : Prop := Claim7.holds Tryd.pinned (.plain (OpenSpec.ofChange fnRouteFormSpec)) fnRouteFormCard

/-- THE TIED CARD OF 'laws.FnRouteThree'. -/
def fnRouteThreeCard : Claim7 := { stood := { row := fnRouteThreeRow, standIns := [], harness := (true, "ad6f4574e242c200966fa263c0f482921cef53931d8b7d545a36b70ec36f26e8"), looks := true }, kinds := [], alts := [], laidByText := true, laidKinds := [.data, .data, .data, .sentinel], laidTests := true, laidLooks := .later }
def FnRouteThreeCardSaid : Prop := Claim7.holds Tryd.pinned (.plain (OpenSpec.ofChange fnRouteThreeSpec)) fnRouteThreeCard

/-- THE SECOND FORM's CARD OF 'laws.FnClauseFits'. -/
def fnClauseFitsUptoCard : Claim7 := { stood := { row := fnClauseFitsUptoRow, standIns := [], harness := (true, "ad6f4574e242c200966fa263c0f482921cef53931d8b7d545a36b70ec36f26e8"), looks := true }, kinds := [], alts := [], laidByText := true, laidKinds := [.data, .data, .data, .sentinel], laidTests := true, laidLooks := .later }
def FnClauseFitsUptoCardSaid : Prop := Claim7.holds Tryd.pinned (.plain (OpenSpec.upto fnClauseFitsSpec)) fnClauseFitsUptoCard

/-- THE SECOND FORM's CARD OF 'laws.FnPathForm'. -/
def fnPathFormUptoCard : Claim7 := { stood := { row := fnPathFormUptoRow, standIns := [], harness := (true, "ad6f4574e242c200966fa263c0f482921cef53931d8b7d545a36b70ec36f26e8"), looks := true }, kinds := [], alts := [], laidByText := true, laidKinds := [.data, .data, .data, .sentinel], laidTests := true, laidLooks := .later }
def FnPathFormUptoCardSaid : Prop := Claim7.holds Tryd.pinned (.plain (OpenSpec.upto fnPathFormSpec)) fnPathFormUptoCard

/-- THE SECOND FORM's CARD OF 'laws.FnPathRest'. -/
def fnPathRestUptoCard : Claim7 := { stood := { row := fnPathRestUptoRow, standIns := [], harness := (true, "ad6f4574e242c200966fa263c0f482921cef53931d8b7d545a36b70ec36f26e8"), looks := true }, kinds := [], alts := [], laidByText := true, laidKinds := [.data, .data, .data, .sentinel], laidTests := true, laidLooks := .later }
def FnPathRestUptoCardSaid : Prop := Claim7.holds Tryd.pinned (.plain (OpenSpec.upto fnPathRestSpec)) fnPathRestUptoCard

/-- THE SECOND FORM's CARD OF 'laws.FnPathTexts'. -/
def fnPathTextsUptoCard : Claim7 := { stood := { row := fnPathTextsUptoRow, standIns := [], harness := (true, "ad6f4574e242c200966fa263c0f482921cef53931d8b7d545a36b70ec36f26e8"), looks := true }, kinds := [], alts := [], laidByText := true, laidKinds := [.data, .data, .data, .sentinel], laidTests := true, laidLooks := .later }
def FnPathTextsUptoCardSaid : Prop := Claim7.holds Tryd.pinned (.plain (OpenSpec.upto fnPathTextsSpec)) fnPathTextsUptoCard

/-- THE SECOND FORM's CARD OF 'laws.FnRouteCmp'. -/
def fnRouteCmpUptoCard : Claim7 := { stood := { row := fnRouteCmpUptoRow, standIns := [], harness := (true, "ad6f4574e242c200966fa263c0f482921cef53931d8b7d545a36b70ec36f26e8"), looks := true }, kinds := [], alts := [], laidByText := true, laidKinds := [.data, .data, .data, .sentinel], laidTests := true, laidLooks := .later }
def FnRouteCmpUptoCardSaid : Prop := Claim7.holds Tryd.pinned (.plain (OpenSpec.upto fnRouteCmpSpec)) fnRouteCmpUptoCard

/-- THE SECOND FORM's CARD OF 'laws.FnRouteForm'. -/
def fnRouteFormUptoCard : Claim7 := { stood := { row := fnRouteFormUptoRow, standIns := [], harness := (true, "ad6f4574e242c200966fa263c0f482921cef53931d8b7d545a36b70ec36f26e8"), looks := true }, kinds := [], alts := [], laidByText := true, laidKinds := [.data, .data, .data, .sentinel], laidTests := true, laidLooks := .later }
def FnRouteFormUptoCardSaid : Prop := Claim7.holds Tryd.pinned (.plain (OpenSpec.upto fnRouteFormSpec)) fnRouteFormUptoCard

/-- THE SECOND FORM's CARD OF 'laws.FnRouteThree'. -/
def fnRouteThreeUptoCard : Claim7 := { stood := { row := fnRouteThreeUptoRow, standIns := [], harness := (true, "ad6f4574e242c200966fa263c0f482921cef53931d8b7d545a36b70ec36f26e8"), looks := true }, kinds := [], alts := [], laidByText := true, laidKinds := [.data, .data, .data, .sentinel], laidTests := true, laidLooks := .later }
def FnRouteThreeUptoCardSaid : Prop := Claim7.holds Tryd.pinned (.plain (OpenSpec.upto fnRouteThreeSpec)) fnRouteThreeUptoCard
end Rows
end Go.Proofs.YtgegmampnpgcaaaDoor
