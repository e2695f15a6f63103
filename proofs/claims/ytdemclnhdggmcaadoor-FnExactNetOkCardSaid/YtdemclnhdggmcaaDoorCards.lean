/-
  DERIVED. GIVEN WITH THE SEED: THE CARDS: each row of YtdemclnhdggmcaaDoorRows.lean that lists a variable, with what it lists TIED to the program's text (the seventh form; the later family's looks); each row that meets fmt, with fmt's text TOLD by the authors' own Lean function (tested against real Go, not proved from fmt's source: count such statements apart). THE CARD IS WHAT COUNTS. Prove the row's statement (the work); the ties are given (YtdemclnhdggmcaaDoorTie.lean); close each card by the builder's one call (the guide's Derived/Test/ToyasCard.lean, 'card_holds'). Laid BY PROGRAM, IN A SANDBOX (cutbox-door.mjs). By AI agents, Wed Nov 11 2026. No macro, syntax, notation, axiom, sorry.
-/
import Derived.Test.YtdemclnhdggmcaaDoorRows
import GoSem.ClaimSeven
namespace Go.Proofs.YtdemclnhdggmcaaDoor
namespace Rows

/-- THE TIED CARD OF 'laws.FnExactNetOk'. -/
def fnExactNetOkCard : Claim7 := { stood := { row := fnExactNetOkRow, standIns := [], harness := (true, "b295aff735bffddaeca1985d0112c9e28b6e6139b8e7782f72b543718fb58111"), looks := true }, kinds := [], alts := [], laidByText := true, laidKinds := [.data, .data, .data, .sentinel], laidTests := true, laidLooks := .later }
def FnExactNetOkCardSaid : Prop := Claim7.holds Tryd.pinned (.plain (OpenSpec.ofChange fnExactNetOkSpec)) fnExactNetOkCard

/-- THE SECOND FORM's CARD OF 'laws.FnExactNetOk'. -/
def fnExactNetOkUptoCard : Claim7 := { stood := { row := fnExactNetOkUptoRow, standIns := [], harness := (true, "b295aff735bffddaeca1985d0112c9e28b6e6139b8e7782f72b543718fb58111"), looks := true }, kinds := [], alts := [], laidByText := true, laidKinds := [.data, .data, .data, .sentinel], laidTests := true, laidLooks := .later }
def FnExactNetOkUptoCardSaid : Prop := Claim7.holds Tryd.pinned (.plain (OpenSpec.upto fnExactNetOkSpec)) fnExactNetOkUptoCard
end Rows
end Go.Proofs.YtdemclnhdggmcaaDoor
