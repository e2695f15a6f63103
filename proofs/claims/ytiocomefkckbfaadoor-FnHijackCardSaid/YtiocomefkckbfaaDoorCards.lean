/-
  DERIVED. GIVEN WITH THE SEED: THE CARDS: each row of YtiocomefkckbfaaDoorRows.lean that lists a variable, with what it lists TIED to the program's text (the seventh form; the later family's looks); each row that meets fmt, with fmt's text TOLD by the authors' own Lean function (tested against real Go, not proved from fmt's source: count such statements apart). THE CARD IS WHAT COUNTS. Prove the row's statement (the work); the ties are given (YtiocomefkckbfaaDoorTie.lean); close each card by the builder's one call (the guide's Derived/Test/ToyasCard.lean, 'card_holds'). Laid BY PROGRAM, IN A SANDBOX (cutbox-door.mjs). By AI agents, Wed Nov 11 2026. No macro, syntax, notation, axiom, sorry.
-/
import Derived.Test.YtiocomefkckbfaaDoorRows
import GoSem.ClaimSeven
namespace Go.Proofs.YtiocomefkckbfaaDoor
namespace Rows

/-- THE TIED CARD OF 'laws.FnSealHas'. -/
def fnSealHasCard : Claim7 := { stood := { row := fnSealHasRow, standIns := [], harness := (true, "3a9ba1a72716bb61fde830ef0f5c990836a0bb7ec85ab6ac8cf318af33831100"), looks := true }, kinds := [], alts := [], laidByText := true, laidKinds := [.data, .data, .data], laidTests := true, laidLooks := .later }
def FnSealHasCardSaid : Prop := Claim7.holds Tryd.pinned (.plain (OpenSpec.ofChange fnSealHasSpec)) fnSealHasCard

/-- THE TIED CARD OF 'laws.FnSealMake'. -/
def fnSealMakeCard : Claim7 := { stood := { row := fnSealMakeRow, standIns := [], harness := (true, "3a9ba1a72716bb61fde830ef0f5c990836a0bb7ec85ab6ac8cf318af33831100"), looks := true }, kinds := [], alts := [], laidByText := true, laidKinds := [.data, .data, .data, .sentinel], laidTests := true, laidLooks := .later }
def FnSealMakeCardSaid : Prop := Claim7.holds Tryd.pinned (.plain (OpenSpec.ofChange fnSealMakeSpec)) fnSealMakeCard

/-- THE TIED CARD OF 'laws.FnShorten'. -/
def fnShortenCard : Claim7 := { stood := { row := fnShortenRow, standIns := [], harness := (true, "3a9ba1a72716bb61fde830ef0f5c990836a0bb7ec85ab6ac8cf318af33831100"), looks := true }, kinds := [], alts := [], laidByText := true, laidKinds := [.data, .data, .data, .sentinel], laidTests := true, laidLooks := .later }
def FnShortenCardSaid : Prop := Claim7.holds Tryd.pinned (.plain (OpenSpec.ofChange fnShortenSpec)) fnShortenCard

/-- THE TIED CARD OF 'laws.FnSealRange'. -/
def fnSealRangeCard : Claim7 := { stood := { row := fnSealRangeRow, standIns := [], harness := (true, "3a9ba1a72716bb61fde830ef0f5c990836a0bb7ec85ab6ac8cf318af33831100"), looks := true }, kinds := [], alts := [], laidByText := true, laidKinds := [.data, .data, .data, .sentinel], laidTests := true, laidLooks := .later }
def FnSealRangeCardSaid : Prop := Claim7.holds Tryd.pinned (.plain (OpenSpec.ofChange fnSealRangeSpec)) fnSealRangeCard

/-- THE TIED CARD OF 'laws.FnHijack'. -/
def fnHijackCard : Claim7 := { stood := { row := fnHijackRow, standIns := [], harness := (true, "3a9ba1a72716bb61fde830ef0f5c990836a0bb7ec85ab6ac8cf318af33831100"), looks := true }, kinds := [], alts := [], laidByText := true, laidKinds := [.data, .data, .data, .sentinel], laidTests := true, laidLooks := .later }
def FnHijackCardSaid : Prop := Claim7.holds Tryd.pinned (.plain (OpenSpec.ofChange fnHijackSpec)) fnHijackCard

/-- THE TIED CARD OF 'laws.FnSealLacks'. -/
def fnSealLacksCard : Claim7 := { stood := { row := fnSealLacksRow, standIns := [], harness := (true, "3a9ba1a72716bb61fde830ef0f5c990836a0bb7ec85ab6ac8cf318af33831100"), looks := true }, kinds := [], alts := [], laidByText := true, laidKinds := [.data, .data, .data, .sentinel], laidTests := true, laidLooks := .later }
def FnSealLacksCardSaid : Prop := Claim7.holds Tryd.pinned (.plain (OpenSpec.ofChange fnSealLacksSpec)) fnSealLacksCard

/-- THE TIED CARD OF 'laws.FnSealOk'. -/
def fnSealOkCard : Claim7 := { stood := { row := fnSealOkRow, standIns := [], harness := (true, "3a9ba1a72716bb61fde830ef0f5c990836a0bb7ec85ab6ac8cf318af33831100"), looks := true }, kinds := [], alts := [], laidByText := true, laidKinds := [.data, .data, .data, .sentinel], laidTests := true, laidLooks := .later }
def FnSealOkCardSaid : Prop := Claim7.holds Tryd.pinned (.plain (OpenSpec.ofChange fnSealOkSpec)) fnSealOkCard

/-- THE TIED CARD OF 'laws.FnSealMore'. -/
def fnSealMoreCard : Claim7 := { stood := { row := fnSealMoreRow, standIns := [], harness := (true, "3a9ba1a72716bb61fde830ef0f5c990836a0bb7ec85ab6ac8cf318af33831100"), looks := true }, kinds := [], alts := [], laidByText := true, laidKinds := [.data, .data, .data, .sentinel], laidTests := true, laidLooks := .later }
def FnSealMoreCardSaid : Prop := Claim7.holds Tryd.pinned (.plain (OpenSpec.ofChange fnSealMoreSpec)) fnSealMoreCard

/-- THE SECOND FORM's CARD OF 'laws.FnSealHas'. -/
def fnSealHasUptoCard : Claim7 := { stood := { row := fnSealHasUptoRow, standIns := [], harness := (true, "3a9ba1a72716bb61fde830ef0f5c990836a0bb7ec85ab6ac8cf318af33831100"), looks := true }, kinds := [], alts := [], laidByText := true, laidKinds := [.data, .data, .data], laidTests := true, laidLooks := .later }
def FnSealHasUptoCardSaid : Prop := Claim7.holds Tryd.pinned (.plain (OpenSpec.upto fnSealHasSpec)) fnSealHasUptoCard

/-- THE SECOND FORM's CARD OF 'laws.FnSealMake'. -/
def fnSealMakeUptoCard : Claim7 := { stood := { row := fnSealMakeUptoRow, standIns := [], harness := (true, "3a9ba1a72716bb61fde830ef0f5c990836a0bb7ec85ab6ac8cf318af33831100"), looks := true }, kinds := [], alts := [], laidByText := true, laidKinds := [.data, .data, .data, .sentinel], laidTests := true, laidLooks := .later }
def FnSealMakeUptoCardSaid : Prop := Claim7.holds Tryd.pinned (.plain (OpenSpec.upto fnSealMakeSpec)) fnSealMakeUptoCard

/-- THE SECOND FORM's CARD OF 'laws.FnShorten'. -/
def fnShortenUptoCard : Claim7 := { stood := { row := fnShortenUptoRow, standIns := [], harness := (true, "3a9ba1a72716bb61fde830ef0f5c990836a0bb7ec85ab6ac8cf318af33831100"), looks := true }, kinds := [], alts := [], laidByText := true, laidKinds := [.data, .data, .data, .sentinel], laidTests := true, laidLooks := .later }
def FnShortenUptoCardSaid : Prop := Claim7.holds Tryd.pinned (.plain (OpenSpec.upto fnShortenSpec)) fnShortenUptoCard

/-- THE SECOND FORM's CARD OF 'laws.FnSealRange'. -/
def fnSealRangeUptoCard : Claim7 := { stood := { row := fnSealRangeUptoRow, standIns := [], harness := (true, "3a9ba1a72716bb61fde830ef0f5c990836a0bb7ec85ab6ac8cf318af33831100"), looks := true }, kinds := [], alts := [], laidByText := true, laidKinds := [.data, .data, .data, .sentinel], laidTests := true, laidLooks := .later }
def FnSealRangeUptoCardSaid : Prop := Claim7.holds Tryd.pinned (.plain (OpenSpec.upto fnSealRangeSpec)) fnSealRangeUptoCard

/-- THE SECOND FORM's CARD OF 'laws.FnHijack'. -/
def fnHijackUptoCard : Claim7 := { stood := { row := fnHijackUptoRow, standIns := [], harness := (true, "3a9ba1a72716bb61fde830ef0f5c990836a0bb7ec85ab6ac8cf318af33831100"), looks := true }, kinds := [], alts := [], laidByText := true, laidKinds := [.data, .data, .data, .sentinel], laidTests := true, laidLooks := .later }
def FnHijackUptoCardSaid : Prop := Claim7.holds Tryd.pinned (.plain (OpenSpec.upto fnHijackSpec)) fnHijackUptoCard

/-- THE SECOND FORM's CARD OF 'laws.FnSealLacks'. -/
def fnSealLacksUptoCard : Claim7 := { stood := { row := fnSealLacksUptoRow, standIns := [], harness := (true, "3a9ba1a72716bb61fde830ef0f5c990836a0bb7ec85ab6ac8cf318af33831100"), looks := true }, kinds := [], alts := [], laidByText := true, laidKinds := [.data, .data, .data, .sentinel], laidTests := true, laidLooks := .later }
def FnSealLacksUptoCardSaid : Prop := Claim7.holds Tryd.pinned (.plain (OpenSpec.upto fnSealLacksSpec)) fnSealLacksUptoCard

/-- THE SECOND FORM's CARD OF 'laws.FnSealOk'. -/
def fnSealOkUptoCard : Claim7 := { stood := { row := fnSealOkUptoRow, standIns := [], harness := (true, "3a9ba1a72716bb61fde830ef0f5c990836a0bb7ec85ab6ac8cf318af33831100"), looks := true }, kinds := [], alts := [], laidByText := true, laidKinds := [.data, .data, .data, .sentinel], laidTests := true, laidLooks := .later }
def FnSealOkUptoCardSaid : Prop := Claim7.holds Tryd.pinned (.plain (OpenSpec.upto fnSealOkSpec)) fnSealOkUptoCard

/-- THE SECOND FORM's CARD OF 'laws.FnSealMore'. -/
def fnSealMoreUptoCard : Claim7 := { stood := { row := fnSealMoreUptoRow, standIns := [], harness := (true, "3a9ba1a72716bb61fde830ef0f5c990836a0bb7ec85ab6ac8cf318af33831100"), looks := true }, kinds := [], alts := [], laidByText := true, laidKinds := [.data, .data, .data, .sentinel], laidTests := true, laidLooks := .later }
def FnSealMoreUptoCardSaid : Prop := Claim7.holds Tryd.pinned (.plain (OpenSpec.upto fnSealMoreSpec)) fnSealMoreUptoCard
end Rows
end Go.Proofs.YtiocomefkckbfaaDoor
