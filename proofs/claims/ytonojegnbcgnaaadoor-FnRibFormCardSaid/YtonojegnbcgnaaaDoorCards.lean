/-
  DERIVED. GIVEN WITH THE SEED: THE CARDS: each row of YtonojegnbcgnaaaDoorRows.lean that lists a variable, with what it lists TIED to the program's text (the seventh form; the later family's looks); each row that meets fmt, with fmt's text TOLD by the authors' own Lean function (tested against real Go, not proved from fmt's source: count such statements apart). THE CARD IS WHAT COUNTS. Prove the row's statement (the work); the ties are given (YtonojegnbcgnaaaDoorTie.lean); close each card by the builder's one call (the guide's Derived/Test/ToyasCard.lean, 'card_holds'). Laid BY PROGRAM, IN A SANDBOX (cutbox-door.mjs). By AI agents, Wed Nov 11 2026. No macro, syntax, notation, axiom, sorry.
-/
import Derived.Test.YtonojegnbcgnaaaDoorRows
import GoSem.ClaimSeven
namespace Go.Proofs.YtonojegnbcgnaaaDoor
namespace Rows

/-- THE TIED CARD OF 'laws.FnMarkOrder'. -/
def fnMarkOrderCard : Claim7 := { stood := { row := fnMarkOrderRow, standIns := [], harness := (true, "e6069db267b9a6631749c9f4e71913e1a958f6c53cd6dfd51787eff7097f738b"), looks := true }, kinds := [], alts := [], laidByText := true, laidKinds := [.data, .data, .data, .sentinel], laidTests := true, laidLooks := .later }
def FnMarkOrderCardSaid : Prop := Claim7.holds Tryd.pinned (.plain (OpenSpec.ofChange fnMarkOrderSpec)) fnMarkOrderCard

/-- THE TIED CARD OF 'laws.FnBest'. -/
def fnBestCard : Claim7 := { stood := { row := fnBestRow, standIns := [], harness := (true, "e6069db267b9a6631749c9f4e71913e1a958f6c53cd6dfd51787eff7097f738b"), looks := true }, kinds := [], alts := [], laidByText := true, laidKinds := [.data, .data, .data, .sentinel], laidTests := true, laidLooks := .later }
def FnBestCardSaid : Prop := Claim7.holds Tryd.pinned (.plain (OpenSpec.ofChange fnBestSpec)) fnBestCard

/-- THE TIED CARD OF 'laws.FnBestMore'. -/
def fnBestMoreCard : Claim7 := { stood := { row := fnBestMoreRow, standIns := [], harness := (true, "e6069db267b9a6631749c9f4e71913e1a958f6c53cd6dfd51787eff7097f738b"), looks := true }, kinds := [], alts := [], laidByText := true, laidKinds := [.data, .data, .data, .sentinel], laidTests := true, laidLooks := .later }
def FnBestMoreCardSaid : Prop := Claim7.holds Tryd.pinned (.plain (OpenSpec.ofChange fnBestMoreSpec)) fnBestMoreCard

/-- THE TIED CARD OF 'laws.FnBestOrder'. -/
def fnBestOrderCard : Claim7 := { stood := { row := fnBestOrderRow, standIns := [], harness := (true, "e6069db267b9a6631749c9f4e71913e1a958f6c53cd6dfd51787eff7097f738b"), looks := true }, kinds := [], alts := [], laidByText := true, laidKinds := [.data, .data, .data, .sentinel], laidTests := true, laidLooks := .later }
def FnBestOrderCardSaid : Prop := Claim7.holds Tryd.pinned (.plain (OpenSpec.ofChange fnBestOrderSpec)) fnBestOrderCard

/-- THE TIED CARD OF 'laws.FnRoutesForm'. -/
def fnRoutesFormCard : Claim7 := { stood := { row := fnRoutesFormRow, standIns := [], harness := (true, "e6069db267b9a6631749c9f4e71913e1a958f6c53cd6dfd51787eff7097f738b"), looks := true }, kinds := [], alts := [], laidByText := true, laidKinds := [.data, .data, .data, .sentinel], laidTests := true, laidLooks := .later }
def FnRoutesFormCardSaid : Prop := Claim7.holds Tryd.pinned (.plain (OpenSpec.ofChange fnRoutesFormSpec)) fnRoutesFormCard

/-- THE TIED CARD OF 'laws.FnRibForm'. -/
def fnRibFormCard : Claim7 := { stood := { row := fnRibFormRow, standIns := [], harness := (true, "e6069db267b9a6631749c9f4e71913e1a958f6c53cd6dfd51787eff7097f738b"), looks := true }, kinds := [], alts := [], laidByText := true, laidKinds := [.data, .data, .data, .sentinel], laidTests := true, laidLooks := .later }
def FnRibFormCardSaid : Prop := Claim7.holds Tryd.pinned (.plain (OpenSpec.ofChange fnRibFormSpec)) fnRibFormCard

/-- THE TIED CARD OF 'laws.FnNone'. -/
def fnNoneCard : Claim7 := { stood := { row := fnNoneRow, standIns := [], harness := (true, "e6069db267b9a6631749c9f4e71913e1a958f6c53cd6dfd51787eff7097f738b"), looks := true }, kinds := [], alts := [], laidByText := true, laidKinds := [.data, .data, .data, .sentinel], laidTests := true, laidLooks := .later }
def FnNoneCardSaid : Prop := Claim7.holds Tryd.pinned (.plain (OpenSpec.ofChange fnNoneSpec)) fnNoneCard

/-- THE TIED CARD OF 'laws.FnNetForm'. -/
def fnNetFormCard : Claim7 := { stood := { row := fnNetFormRow, standIns := [], harness := (true, "e6069db267b9a6631749c9f4e71913e1a958f6c53cd6dfd51787eff7097f738b"), looks := true }, kinds := [], alts := [], laidByText := true, laidKinds := [.data, .data, .data, .sentinel], laidTests := true, laidLooks := .later }
def FnNetFormCardSaid : Prop := Claim7.holds Tryd.pinned (.plain (OpenSpec.ofChange fnNetFormSpec)) fnNetFormCard

/-- THE SECOND FORM's CARD OF 'laws.FnMarkOrder'. -/
def fnMarkOrderUptoCard : Claim7 := { stood := { row := fnMarkOrderUptoRow, standIns := [], harness := (true, "e6069db267b9a6631749c9f4e71913e1a958f6c53cd6dfd51787eff7097f738b"), looks := true }, kinds := [], alts := [], laidByText := true, laidKinds := [.data, .data, .data, .sentinel], laidTests := true, laidLooks := .later }
def FnMarkOrderUptoCardSaid : Prop := Claim7.holds Tryd.pinned (.plain (OpenSpec.upto fnMarkOrderSpec)) fnMarkOrderUptoCard

/-- THE SECOND FORM's CARD OF 'laws.FnBest'. -/
def fnBestUptoCard : Claim7 := { stood := { row := fnBestUptoRow, standIns := [], harness := (true, "e6069db267b9a6631749c9f4e71913e1a958f6c53cd6dfd51787eff7097f738b"), looks := true }, kinds := [], alts := [], laidByText := true, laidKinds := [.data, .data, .data, .sentinel], laidTests := true, laidLooks := .later }
def FnBestUptoCardSaid : Prop := Claim7.holds Tryd.pinned (.plain (OpenSpec.upto fnBestSpec)) fnBestUptoCard

/-- THE SECOND FORM's CARD OF 'laws.FnBestMore'. -/
def fnBestMoreUptoCard : Claim7 := { stood := { row := fnBestMoreUptoRow, standIns := [], harness := (true, "e6069db267b9a6631749c9f4e71913e1a958f6c53cd6dfd51787eff7097f738b"), looks := true }, kinds := [], alts := [], laidByText := true, laidKinds := [.data, .data, .data, .sentinel], laidTests := true, laidLooks := .later }
def FnBestMoreUptoCardSaid : Prop := Claim7.holds Tryd.pinned (.plain (OpenSpec.upto fnBestMoreSpec)) fnBestMoreUptoCard

/-- THE SECOND FORM's CARD OF 'laws.FnBestOrder'. -/
def fnBestOrderUptoCard : Claim7 := { stood := { row := fnBestOrderUptoRow, standIns := [], harness := (true, "e6069db267b9a6631749c9f4e71913e1a958f6c53cd6dfd51787eff7097f738b"), looks := true }, kinds := [], alts := [], laidByText := true, laidKinds := [.data, .data, .data, .sentinel], laidTests := true, laidLooks := .later }
def FnBestOrderUptoCardSaid : Prop := Claim7.holds Tryd.pinned (.plain (OpenSpec.upto fnBestOrderSpec)) fnBestOrderUptoCard

/-- THE SECOND FORM's CARD OF 'laws.FnRoutesForm'. -/
def fnRoutesFormUptoCard : Claim7 := { stood := { row := fnRoutesFormUptoRow, standIns := [], harness := (true, "e6069db267b9a6631749c9f4e71913e1a958f6c53cd6dfd51787eff7097f738b"), looks := true }, kinds := [], alts := [], laidByText := true, laidKinds := [.data, .data, .data, .sentinel], laidTests := true, laidLooks := .later }
def FnRoutesFormUptoCardSaid : Prop := Claim7.holds Tryd.pinned (.plain (OpenSpec.upto fnRoutesFormSpec)) fnRoutesFormUptoCard

/-- THE SECOND FORM's CARD OF 'laws.FnRibForm'. -/
def fnRibFormUptoCard : Claim7 := { stood := { row := fnRibFormUptoRow, standIns := [], harness := (true, "e6069db267b9a6631749c9f4e71913e1a958f6c53cd6dfd51787eff7097f738b"), looks := true }, kinds := [], alts := [], laidByText := true, laidKinds := [.data, .data, .data, .sentinel], laidTests := true, laidLooks := .later }
def FnRibFormUptoCardSaid : Prop := Claim7.holds Tryd.pinned (.plain (OpenSpec.upto fnRibFormSpec)) fnRibFormUptoCard

/-- THE SECOND FORM's CARD OF 'laws.FnNone'. -/
def fnNoneUptoCard : Claim7 := { stood := { row := fnNoneUptoRow, standIns := [], harness := (true, "e6069db267b9a6631749c9f4e71913e1a958f6c53cd6dfd51787eff7097f738b"), looks := true }, kinds := [], alts := [], laidByText := true, laidKinds := [.data, .data, .data, .sentinel], laidTests := true, laidLooks := .later }
def FnNoneUptoCardSaid : Prop := Claim7.holds Tryd.pinned (.plain (OpenSpec.upto fnNoneSpec)) fnNoneUptoCard

/-- THE SECOND FORM's CARD OF 'laws.FnNetForm'. -/
def fnNetFormUptoCard : Claim7 := { stood := { row := fnNetFormUptoRow, standIns := [], harness := (true, "e6069db267b9a6631749c9f4e71913e1a958f6c53cd6dfd51787eff7097f738b"), looks := true }, kinds := [], alts := [], laidByText := true, laidKinds := [.data, .data, .data, .sentinel], laidTests := true, laidLooks := .later }
def FnNetFormUptoCardSaid : Prop := Claim7.holds Tryd.pinned (.plain (OpenSpec.upto fnNetFormSpec)) fnNetFormUptoCard
end Rows
end Go.Proofs.YtonojegnbcgnaaaDoor
