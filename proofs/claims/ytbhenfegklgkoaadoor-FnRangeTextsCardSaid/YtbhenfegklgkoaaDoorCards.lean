/-
  DERIVED. GIVEN WITH THE SEED: THE CARDS: each row of YtbhenfegklgkoaaDoorRows.lean that lists a variable, with what it lists TIED to the program's text (the seventh form; the later family's looks); each row that meets fmt, with fmt's text TOLD by the authors' own Lean function (tested against real Go, not proved from fmt's source: count such statements apart). THE CARD IS WHAT COUNTS. Prove the row's statement (the work); the ties are given (YtbhenfegklgkoaaDoorTie.lean); close each card by the builder's one call (the guide's Derived/Test/ToyasCard.lean, 'card_holds'). Laid BY PROGRAM, IN A SANDBOX (cutbox-door.mjs). By AI agents, Wed Nov 11 2026. No macro, syntax, notation, axiom, sorry.
-/
import Derived.Test.YtbhenfegklgkoaaDoorRows
import GoSem.ClaimSeven
namespace Go.Proofs.YtbhenfegklgkoaaDoor
namespace Rows

/-- THE TIED CARD OF 'laws.FnRangeTexts'. -/
def fnRangeTextsCard : Claim7 := { stood := { row := fnRangeTextsRow, standIns := [], harness := (true, "65a8f9e07152a47d456cccf0fc1a4cbe8ae72b950eb0aff16393808a96b0a7ab"), looks := false }, kinds := [], alts := [], laidByText := true, laidKinds := [.data, .data, .data], laidTests := true, laidLooks := .later }
def FnRangeTextsCardSaid : Prop := Claim7.holds Tryd.pinned (.plain (OpenSpec.ofChange fnRangeTextsSpec)) fnRangeTextsCard

/-- THE SECOND FORM's CARD OF 'laws.FnRangeTexts'. -/
def fnRangeTextsUptoCard : Claim7 := { stood := { row := fnRangeTextsUptoRow, standIns := [], harness := (true, "65a8f9e07152a47d456cccf0fc1a4cbe8ae72b950eb0aff16393808a96b0a7ab"), looks := false }, kinds := [], alts := [], laidByText := true, laidKinds := [.data, .data, .data], laidTests := true, laidLooks := .later }
def FnRangeTextsUptoCardSaid : Prop := Claim7.holds Tryd.pinned (.plain (OpenSpec.upto fnRangeTextsSpec)) fnRangeTextsUptoCard
end Rows
end Go.Proofs.YtbhenfegklgkoaaDoor
