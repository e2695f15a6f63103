/-
  DERIVED. GIVEN WITH THE SEED: THE CARDS: each row of YtcdmkmkjppbkgaaDoorRows.lean that lists a variable, with what it lists TIED to the program's text (the seventh form; the later family's looks); each row that meets fmt, with fmt's text TOLD by the authors' own Lean function (tested against real Go, not proved from fmt's source: count such statements apart). THE CARD IS WHAT COUNTS. Prove the row's statement (the work); the ties are given (YtcdmkmkjppbkgaaDoorTie.lean); close each card by the builder's one call (the guide's Derived/Test/ToyasCard.lean, 'card_holds'). Laid BY PROGRAM, IN A SANDBOX (cutbox-door.mjs). By AI agents, Wed Nov 11 2026. No macro, syntax, notation, axiom, sorry.
-/
import Derived.Test.YtcdmkmkjppbkgaaDoorRows
import GoSem.ClaimSeven
namespace Go.Proofs.YtcdmkmkjppbkgaaDoor
namespace Rows

/-- THE TIED CARD OF 'laws.FnPathForm'. -/
def fnPathFormCard : Claim7 := { stood := { row := fnPathFormRow, standIns := [], harness := (true, "93f6d0d50044db2219d8bfcc1cba36844bc4859ed6ce0f24c3946969da175d4e"), looks := true }, kinds := [], alts := [], laidByText := true, laidKinds := [.data, .data, .data, .sentinel], laidTests := true, laidLooks := .later }
def FnPathFormCardSaid : Prop := Claim7.holds Tryd.pinned (.plain (OpenSpec.ofChange fnPathFormSpec)) fnPathFormCard

/-- THE TIED CARD OF 'laws.FnPathHas'. -/
def fnPathHasCard : Claim7 := { stood := { row := fnPathHasRow, standIns := [], harness := (true, "93f6d0d50044db2219d8bfcc1cba36844bc4859ed6ce0f24c3946969da175d4e"), looks := true }, kinds := [], alts := [], laidByText := true, laidKinds := [.data, .data, .data, .sentinel], laidTests := true, laidLooks := .later }
def FnPathHasCardSaid : Prop := Claim7.holds Tryd.pinned (.plain (OpenSpec.ofChange fnPathHasSpec)) fnPathHasCard

/-- THE TIED CARD OF 'laws.FnPathAdd'. -/
def fnPathAddCard : Claim7 := { stood := { row := fnPathAddRow, standIns := [], harness := (true, "93f6d0d50044db2219d8bfcc1cba36844bc4859ed6ce0f24c3946969da175d4e"), looks := true }, kinds := [], alts := [], laidByText := true, laidKinds := [.data, .data, .data, .sentinel], laidTests := true, laidLooks := .later }
def FnPathAddCardSaid : Prop := Claim7.holds Tryd.pinned (.plain (OpenSpec.ofChange fnPathAddSpec)) fnPathAddCard

/-- THE TIED CARD OF 'laws.FnPathThree'. -/
def fnPathThreeCard : Claim7 := { stood := { row := fnPathThreeRow, standIns := [], harness := (true, "93f6d0d50044db2219d8bfcc1cba36844bc4859ed6ce0f24c3946969da175d4e"), looks := true }, kinds := [], alts := [], laidByText := true, laidKinds := [.data, .data, .data, .sentinel], laidTests := true, laidLooks := .later }
def FnPathThreeCardSaid : Prop := Claim7.holds Tryd.pinned (.plain (OpenSpec.ofChange fnPathThreeSpec)) fnPathThreeCard

/-- THE TIED CARD OF 'laws.FnPathCmp'. -/
def fnPathCmpCard : Claim7 := { stood := { row := fnPathCmpRow, standIns := [], harness := (true, "93f6d0d50044db2219d8bfcc1cba36844bc4859ed6ce0f24c3946969da175d4e"), looks := true }, kinds := [], alts := [], laidByText := true, laidKinds := [.data, .data, .data, .sentinel], laidTests := true, laidLooks := .later }
def FnPathCmpCardSaid : Prop := Claim7.holds Tryd.pinned (.plain (OpenSpec.ofChange fnPathCmpSpec)) fnPathCmpCard

/-- THE TIED CARD OF 'laws.FnPathRest'. -/
def fnPathRestCard : Claim7 := { stood := { row := fnPathRestRow, standIns := [], harness := (true, "93f6d0d50044db2219d8bfcc1cba36844bc4859ed6ce0f24c3946969da175d4e"), looks := true }, kinds := [], alts := [], laidByText := true, laidKinds := [.data, .data, .data, .sentinel], laidTests := true, laidLooks := .later }
def FnPathRestCardSaid : Prop := Claim7.holds Tryd.pinned (.plain (OpenSpec.ofChange fnPathRestSpec)) fnPathRestCard

/-- THE TIED CARD OF 'laws.FnPathTexts'. -/
def fnPathTextsCard : Claim7 := { stood := { row := fnPathTextsRow, standIns := [], harness := (true, "93f6d0d50044db2219d8bfcc1cba36844bc4859ed6ce0f24c3946969da175d4e"), looks := true }, kinds := [], alts := [], laidByText := true, laidKinds := [.data, .data, .data, .sentinel], laidTests := true, laidLooks := .later }
def FnPathTextsCardSaid : Prop := Claim7.holds Tryd.pinned (.plain (OpenSpec.ofChange fnPathTextsSpec)) fnPathTextsCard

/-- THE TIED CARD OF 'laws.FnRangeTexts'. -/
def fnRangeTextsCard : Claim7 := { stood := { row := fnRangeTextsRow, standIns := [], harness := (true, "93f6d0d50044db2219d8bfcc1cba36844bc4859ed6ce0f24c3946969da175d4e"), looks := true }, kinds := [], alts := [], laidByText := true, laidKinds := [.data, .data, .data], laidTests := true, laidLooks := .later }
def FnRangeTextsCardSaid : Prop := Claim7.holds Tryd.pinned (.plain (OpenSpec.ofChange fnRangeTextsSpec)) fnRangeTextsCard

/-- THE TIED CARD OF 'laws.FnNone'. -/
def fnNoneCard : Claim7 := { stood := { row := fnNoneRow, standIns := [], harness := (true, "93f6d0d50044db2219d8bfcc1cba36844bc4859ed6ce0f24c3946969da175d4e"), looks := true }, kinds := [], alts := [], laidByText := true, laidKinds := [.data, .data, .data, .sentinel], laidTests := true, laidLooks := .later }
def FnNoneCardSaid : Prop := Claim7.holds Tryd.pinned (.plain (OpenSpec.ofChange fnNoneSpec)) fnNoneCard

/-- THE TIED CARD OF 'laws.FnNetForm'. -/
def fnNetFormCard : Claim7 := { stood := { row := fnNetFormRow, standIns := [], harness := (true, "93f6d0d50044db2219d8bfcc1cba36844bc4859ed6ce0f24c3946969da175d4e"), looks := true }, kinds := [], alts := [], laidByText := true, laidKinds := [.data, .data, .data, .sentinel], laidTests := true, laidLooks := .later }
def FnNetFormCardSaid : Prop := Claim7.holds Tryd.pinned (.plain (OpenSpec.ofChange fnNetFormSpec)) fnNetFormCard

/-- THE SECOND FORM's CARD OF 'laws.FnPathForm'. -/
def fnPathFormUptoCard : Claim7 := { stood := { row := fnPathFormUptoRow, standIns := [], harness := (true, "93f6d0d50044db2219d8bfcc1cba36844bc4859ed6ce0f24c3946969da175d4e"), looks := true }, kinds := [], alts := [], laidByText := true, laidKinds := [.data, .data, .data, .sentinel], laidTests := true, laidLooks := .later }
def FnPathFormUptoCardSaid : Prop := Claim7.holds Tryd.pinned (.plain (OpenSpec.upto fnPathFormSpec)) fnPathFormUptoCard

/-- THE SECOND FORM's CARD OF 'laws.FnPathHas'. -/
def fnPathHasUptoCard : Claim7 := { stood := { row := fnPathHasUptoRow, standIns := [], harness := (true, "93f6d0d50044db2219d8bfcc1cba36844bc4859ed6ce0f24c3946969da175d4e"), looks := true }, kinds := [], alts := [], laidByText := true, laidKinds := [.data, .data, .data, .sentinel], laidTests := true, laidLooks := .later }
def FnPathHasUptoCardSaid : Prop := Claim7.holds Tryd.pinned (.plain (OpenSpec.upto fnPathHasSpec)) fnPathHasUptoCard

/-- THE SECOND FORM's CARD OF 'laws.FnPathAdd'. -/
def fnPathAddUptoCard : Claim7 := { stood := { row := fnPathAddUptoRow, standIns := [], harness := (true, "93f6d0d50044db2219d8bfcc1cba36844bc4859ed6ce0f24c3946969da175d4e"), looks := true }, kinds := [], alts := [], laidByText := true, laidKinds := [.data, .data, .data, .sentinel], laidTests := true, laidLooks := .later }
def FnPathAddUptoCardSaid : Prop := Claim7.holds Tryd.pinned (.plain (OpenSpec.upto fnPathAddSpec)) fnPathAddUptoCard

/-- THE SECOND FORM's CARD OF 'laws.FnPathThree'. -/
def fnPathThreeUptoCard : Claim7 := { stood := { row := fnPathThreeUptoRow, standIns := [], harness := (true, "93f6d0d50044db2219d8bfcc1cba36844bc4859ed6ce0f24c3946969da175d4e"), looks := true }, kinds := [], alts := [], laidByText := true, laidKinds := [.data, .data, .data, .sentinel], laidTests := true, laidLooks := .later }
def FnPathThreeUptoCardSaid : Prop := Claim7.holds Tryd.pinned (.plain (OpenSpec.upto fnPathThreeSpec)) fnPathThreeUptoCard

/-- THE SECOND FORM's CARD OF 'laws.FnPathCmp'. -/
def fnPathCmpUptoCard : Claim7 := { stood := { row := fnPathCmpUptoRow, standIns := [], harness := (true, "93f6d0d50044db2219d8bfcc1cba36844bc4859ed6ce0f24c3946969da175d4e"), looks := true }, kinds := [], alts := [], laidByText := true, laidKinds := [.data, .data, .data, .sentinel], laidTests := true, laidLooks := .later }
def FnPathCmpUptoCardSaid : Prop := Claim7.holds Tryd.pinned (.plain (OpenSpec.upto fnPathCmpSpec)) fnPathCmpUptoCard

/-- THE SECOND FORM's CARD OF 'laws.FnPathRest'. -/
def fnPathRestUptoCard : Claim7 := { stood := { row := fnPathRestUptoRow, standIns := [], harness := (true, "93f6d0d50044db2219d8bfcc1cba36844bc4859ed6ce0f24c3946969da175d4e"), looks := true }, kinds := [], alts := [], laidByText := true, laidKinds := [.data, .data, .data, .sentinel], laidTests := true, laidLooks := .later }
def FnPathRestUptoCardSaid : Prop := Claim7.holds Tryd.pinned (.plain (OpenSpec.upto fnPathRestSpec)) fnPathRestUptoCard

/-- THE SECOND FORM's CARD OF 'laws.FnPathTexts'. -/
def fnPathTextsUptoCard : Claim7 := { stood := { row := fnPathTextsUptoRow, standIns := [], harness := (true, "93f6d0d50044db2219d8bfcc1cba36844bc4859ed6ce0f24c3946969da175d4e"), looks := true }, kinds := [], alts := [], laidByText := true, laidKinds := [.data, .data, .data, .sentinel], laidTests := true, laidLooks := .later }
def FnPathTextsUptoCardSaid : Prop := Claim7.holds Tryd.pinned (.plain (OpenSpec.upto fnPathTextsSpec)) fnPathTextsUptoCard

/-- THE SECOND FORM's CARD OF 'laws.FnRangeTexts'. -/
def fnRangeTextsUptoCard : Claim7 := { stood := { row := fnRangeTextsUptoRow, standIns := [], harness := (true, "93f6d0d50044db2219d8bfcc1cba36844bc4859ed6ce0f24c3946969da175d4e"), looks := true }, kinds := [], alts := [], laidByText := true, laidKinds := [.data, .data, .data], laidTests := true, laidLooks := .later }
def FnRangeTextsUptoCardSaid : Prop := Claim7.holds Tryd.pinned (.plain (OpenSpec.upto fnRangeTextsSpec)) fnRangeTextsUptoCard

/-- THE SECOND FORM's CARD OF 'laws.FnNone'. -/
def fnNoneUptoCard : Claim7 := { stood := { row := fnNoneUptoRow, standIns := [], harness := (true, "93f6d0d50044db2219d8bfcc1cba36844bc4859ed6ce0f24c3946969da175d4e"), looks := true }, kinds := [], alts := [], laidByText := true, laidKinds := [.data, .data, .data, .sentinel], laidTests := true, laidLooks := .later }
def FnNoneUptoCardSaid : Prop := Claim7.holds Tryd.pinned (.plain (OpenSpec.upto fnNoneSpec)) fnNoneUptoCard

/-- THE SECOND FORM's CARD OF 'laws.FnNetForm'. -/
def fnNetFormUptoCard : Claim7 := { stood := { row := fnNetFormUptoRow, standIns := [], harness := (true, "93f6d0d50044db2219d8bfcc1cba36844bc4859ed6ce0f24c3946969da175d4e"), looks := true }, kinds := [], alts := [], laidByText := true, laidKinds := [.data, .data, .data, .sentinel], laidTests := true, laidLooks := .later }
def FnNetFormUptoCardSaid : Prop := Claim7.holds Tryd.pinned (.plain (OpenSpec.upto fnNetFormSpec)) fnNetFormUptoCard
end Rows
end Go.Proofs.YtcdmkmkjppbkgaaDoor
