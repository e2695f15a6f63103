/-
  DERIVED. GIVEN WITH THE SEED: THE CARDS: each row of YtepniolgbfbpgaaDoorRows.lean that lists a variable, with what it lists TIED to the program's text (the seventh form; the later family's looks); each row that meets fmt, with fmt's text TOLD by the authors' own Lean function (tested against real Go, not proved from fmt's source: count such statements apart). THE CARD IS WHAT COUNTS. Prove the row's statement (the work); the ties are given (YtepniolgbfbpgaaDoorTie.lean); close each card by the builder's one call (the guide's Derived/Test/ToyasCard.lean, 'card_holds'). Laid BY PROGRAM, IN A SANDBOX (cutbox-door.mjs). By AI agents, Wed Nov 11 2026. No macro, syntax, notation, axiom, sorry.
-/
import Derived.Test.YtepniolgbfbpgaaDoorRows
import GoSem.ClaimSeven
namespace Go.Proofs.YtepniolgbfbpgaaDoor
namespace Rows

/-- THE TIED CARD OF 'laws.FnSealMake'. -/
def fnSealMakeCard : Claim7 := { stood := { row := fnSealMakeRow, standIns := [], harness := (true, "8bfa443146d7a0e272652aa424be8f8cb697f2acd325f2d850e5a721d1f84a98"), looks := true }, kinds := [], alts := [], laidByText := true, laidKinds := [.data, .data, .data, .sentinel], laidTests := true, laidLooks := .later }
def FnSealMakeCardSaid : Prop := Claim7.holds Tryd.pinned (.plain (OpenSpec.ofChange fnSealMakeSpec)) fnSealMakeCard

/-- THE TIED CARD OF 'laws.FnSealRange'. -/
def fnSealRangeCard : Claim7 := { stood := { row := fnSealRangeRow, standIns := [], harness := (true, "8bfa443146d7a0e272652aa424be8f8cb697f2acd325f2d850e5a721d1f84a98"), looks := true }, kinds := [], alts := [], laidByText := true, laidKinds := [.data, .data, .data, .sentinel], laidTests := true, laidLooks := .later }
def FnSealRangeCardSaid : Prop := Claim7.holds Tryd.pinned (.plain (OpenSpec.ofChange fnSealRangeSpec)) fnSealRangeCard

/-- THE TIED CARD OF 'laws.FnShorten'. -/
def fnShortenCard : Claim7 := { stood := { row := fnShortenRow, standIns := [], harness := (true, "8bfa443146d7a0e272652aa424be8f8cb697f2acd325f2d850e5a721d1f84a98"), looks := true }, kinds := [], alts := [], laidByText := true, laidKinds := [.data, .data, .data, .sentinel], laidTests := true, laidLooks := .later }
def FnShortenCardSaid : Prop := Claim7.holds Tryd.pinned (.plain (OpenSpec.ofChange fnShortenSpec)) fnShortenCard

/-- THE SECOND FORM's CARD OF 'laws.FnSealMake'. -/
def fnSealMakeUptoCard : Claim7 := { stood := { row := fnSealMakeUptoRow, standIns := [], harness := (true, "8bfa443146d7a0e272652aa424be8f8cb697f2acd325f2d850e5a721d1f84a98"), looks := true }, kinds := [], alts := [], laidByText := true, laidKinds := [.data, .data, .data, .sentinel], laidTests := true, laidLooks := .later }
def FnSealMakeUptoCardSaid : Prop := Claim7.holds Tryd.pinned (.plain (OpenSpec.upto fnSealMakeSpec)) fnSealMakeUptoCard

/-- THE SECOND FORM's CARD OF 'laws.FnSealRange'. -/
def fnSealRangeUptoCard : Claim7 := { stood := { row := fnSealRangeUptoRow, standIns := [], harness := (true, "8bfa443146d7a0e272652aa424be8f8cb697f2acd325f2d850e5a721d1f84a98"), looks := true }, kinds := [], alts := [], laidByText := true, laidKinds := [.data, .data, .data, .sentinel], laidTests := true, laidLooks := .later }
def FnSealRangeUptoCardSaid : Prop := Claim7.holds Tryd.pinned (.plain (OpenSpec.upto fnSealRangeSpec)) fnSealRangeUptoCard

/-- THE SECOND FORM's CARD OF 'laws.FnShorten'. -/
def fnShortenUptoCard : Claim7 := { stood := { row := fnShortenUptoRow, standIns := [], harness := (true, "8bfa443146d7a0e272652aa424be8f8cb697f2acd325f2d850e5a721d1f84a98"), looks := true }, kinds := [], alts := [], laidByText := true, laidKinds := [.data, .data, .data, .sentinel], laidTests := true, laidLooks := .later }
def FnShortenUptoCardSaid : Prop := Claim7.holds Tryd.pinned (.plain (OpenSpec.upto fnShortenSpec)) fnShortenUptoCard
end Rows
end Go.Proofs.YtepniolgbfbpgaaDoor
