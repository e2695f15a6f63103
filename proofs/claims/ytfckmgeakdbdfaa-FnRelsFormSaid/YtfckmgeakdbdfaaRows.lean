/-
  No cell of these rows narrows 'for every input' (looked for: loops, veiled, ifaces, maps, wideKeys, modest, calm, conditions, laid).
  DERIVED. THE GIVEN ROWS OF THIS SEAT. 10 by the template 'for every input the law returns true; each argument reads behind the call as it read before'; 0 by the template 'total and deterministic' (their statements: YtfckmgeakdbdfaaTotals.lean).
  GIVEN WITH THE SEED: the statements are not yours to turn. If you find one false, say at which input.
  Laid BY PROGRAM, IN A SANDBOX (cutbox-rows.mjs): the forced cells as the released guide's own fill.sh prints them over the translation 7f608e6105e24f83… (all of the seat's roots in one cut). By AI agents, Wed Nov 11 2026. No macro, syntax, notation, axiom, sorry.
-/
import Derived.Test.YtfckmgeakdbdfaaChecked
import GoSem.Claim
import GoSem.ClaimJoined
import GoSem.ClaimMapViews
import Derived.JoinedTies
import Derived.KernelRfl
namespace Go.Proofs.Ytfckmgeakdbdfaa
/- THE CELL 'sum', in the pinned program and in every row, IS THE sha256 OF THE DUMP (.gsa) THAT YtfckmgeakdbdfaaProg.lean LOADS. Nothing in Lean hashes anything: it is a label: what it is worth is what the hold of that sum in a sandbox is worth. -/
noncomputable def Try.pinned : Pinned := { name := "ytfckmgeakdbdfaa", sum := "7f608e6105e24f83292d8c9673c897a86f3607277b230636dabed03d3b6bc288", checked := Try.checked }
namespace Rows
def none {H : Type} : Left H := { results := [], args := [] }

/-- 'laws.FnRelsForm': WHATEVER THE INPUT: true; the input reads as it did. -/
def fnRelsFormSpec : ChangeSpec := { name := "fnRelsForm", fn := fun _ => fun
  | [d1, d2] => { results := [.lit (.bool true)], args := [d1, d2] }
  | _ => none }
def fnRelsFormRow : OpenClaim := { program := "ytfckmgeakdbdfaa", sum := "7f608e6105e24f83292d8c9673c897a86f3607277b230636dabed03d3b6bc288", func := "loop.example/wayboard/laws.FnRelsForm", spec := "fnRelsForm", plainKeys := false, apart := false }
def FnRelsFormSaid : Prop := fnRelsFormRow.holds Try.pinned (OpenSpec.ofChange fnRelsFormSpec)

/-- ITS FALSE NEIGHBOUR: 'it returns false'. Refute it at one input. -/
def fnRelsFormWrong : ChangeSpec := { name := "fnRelsForm", fn := fun _ => fun
  | [d1, d2] => { results := [.lit (.bool false)], args := [d1, d2] }
  | _ => none }
def FnRelsFormWrongFalsely : Prop := fnRelsFormRow.holds Try.pinned (OpenSpec.ofChange fnRelsFormWrong)

/-- 'laws.FnRelBack': WHATEVER THE INPUT: true; the input reads as it did. -/
def fnRelBackSpec : ChangeSpec := { name := "fnRelBack", fn := fun _ => fun
  | [d] => { results := [.lit (.bool true)], args := [d] }
  | _ => none }
def fnRelBackRow : OpenClaim := { program := "ytfckmgeakdbdfaa", sum := "7f608e6105e24f83292d8c9673c897a86f3607277b230636dabed03d3b6bc288", func := "loop.example/wayboard/laws.FnRelBack", spec := "fnRelBack", plainKeys := false, apart := false }
def FnRelBackSaid : Prop := fnRelBackRow.holds Try.pinned (OpenSpec.ofChange fnRelBackSpec)

/-- ITS FALSE NEIGHBOUR: 'it returns false'. Refute it at one input. -/
def fnRelBackWrong : ChangeSpec := { name := "fnRelBack", fn := fun _ => fun
  | [d] => { results := [.lit (.bool false)], args := [d] }
  | _ => none }
def FnRelBackWrongFalsely : Prop := fnRelBackRow.holds Try.pinned (OpenSpec.ofChange fnRelBackWrong)

/-- 'laws.FnRelMay': WHATEVER THE INPUT: true; the input reads as it did. -/
def fnRelMaySpec : ChangeSpec := { name := "fnRelMay", fn := fun _ => fun
  | [d] => { results := [.lit (.bool true)], args := [d] }
  | _ => none }
def fnRelMayRow : OpenClaim := { program := "ytfckmgeakdbdfaa", sum := "7f608e6105e24f83292d8c9673c897a86f3607277b230636dabed03d3b6bc288", func := "loop.example/wayboard/laws.FnRelMay", spec := "fnRelMay", plainKeys := false, apart := false }
def FnRelMaySaid : Prop := fnRelMayRow.holds Try.pinned (OpenSpec.ofChange fnRelMaySpec)

/-- ITS FALSE NEIGHBOUR: 'it returns false'. Refute it at one input. -/
def fnRelMayWrong : ChangeSpec := { name := "fnRelMay", fn := fun _ => fun
  | [d] => { results := [.lit (.bool false)], args := [d] }
  | _ => none }
def FnRelMayWrongFalsely : Prop := fnRelMayRow.holds Try.pinned (OpenSpec.ofChange fnRelMayWrong)

/-- 'laws.FnRelTell': WHATEVER THE INPUT: true; the input reads as it did. -/
def fnRelTellSpec : ChangeSpec := { name := "fnRelTell", fn := fun _ => fun
  | [d] => { results := [.lit (.bool true)], args := [d] }
  | _ => none }
def fnRelTellRow : OpenClaim := { program := "ytfckmgeakdbdfaa", sum := "7f608e6105e24f83292d8c9673c897a86f3607277b230636dabed03d3b6bc288", func := "loop.example/wayboard/laws.FnRelTell", spec := "fnRelTell", plainKeys := false, apart := false }
def FnRelTellSaid : Prop := fnRelTellRow.holds Try.pinned (OpenSpec.ofChange fnRelTellSpec)

/-- ITS FALSE NEIGHBOUR: 'it returns false'. Refute it at one input. -/
def fnRelTellWrong : ChangeSpec := { name := "fnRelTell", fn := fun _ => fun
  | [d] => { results := [.lit (.bool false)], args := [d] }
  | _ => none }
def FnRelTellWrongFalsely : Prop := fnRelTellRow.holds Try.pinned (OpenSpec.ofChange fnRelTellWrong)

/-- 'laws.FnValley': WHATEVER THE INPUT: true; the input reads as it did. -/
def fnValleySpec : ChangeSpec := { name := "fnValley", fn := fun _ => fun
  | [d] => { results := [.lit (.bool true)], args := [d] }
  | _ => none }
def fnValleyRow : OpenClaim := { program := "ytfckmgeakdbdfaa", sum := "7f608e6105e24f83292d8c9673c897a86f3607277b230636dabed03d3b6bc288", func := "loop.example/wayboard/laws.FnValley", spec := "fnValley", plainKeys := false, apart := false }
def FnValleySaid : Prop := fnValleyRow.holds Try.pinned (OpenSpec.ofChange fnValleySpec)

/-- ITS FALSE NEIGHBOUR: 'it returns false'. Refute it at one input. -/
def fnValleyWrong : ChangeSpec := { name := "fnValley", fn := fun _ => fun
  | [d] => { results := [.lit (.bool false)], args := [d] }
  | _ => none }
def FnValleyWrongFalsely : Prop := fnValleyRow.holds Try.pinned (OpenSpec.ofChange fnValleyWrong)

/-- 'laws.FnExactNetNone': WHATEVER THE INPUT: true; the input reads as it did. -/
def fnExactNetNoneSpec : ChangeSpec := { name := "fnExactNetNone", fn := fun _ => fun
  | [d1, d2] => { results := [.lit (.bool true)], args := [d1, d2] }
  | _ => none }
def fnExactNetNoneRow : OpenClaim := { program := "ytfckmgeakdbdfaa", sum := "7f608e6105e24f83292d8c9673c897a86f3607277b230636dabed03d3b6bc288", func := "loop.example/wayboard/laws.FnExactNetNone", spec := "fnExactNetNone", plainKeys := false, apart := false }
def FnExactNetNoneSaid : Prop := fnExactNetNoneRow.holds Try.pinned (OpenSpec.ofChange fnExactNetNoneSpec)

/-- ITS FALSE NEIGHBOUR: 'it returns false'. Refute it at one input. -/
def fnExactNetNoneWrong : ChangeSpec := { name := "fnExactNetNone", fn := fun _ => fun
  | [d1, d2] => { results := [.lit (.bool false)], args := [d1, d2] }
  | _ => none }
def FnExactNetNoneWrongFalsely : Prop := fnExactNetNoneRow.holds Try.pinned (OpenSpec.ofChange fnExactNetNoneWrong)

/-- 'laws.FnRelsLess': WHATEVER THE INPUT: true; the input reads as it did. -/
def fnRelsLessSpec : ChangeSpec := { name := "fnRelsLess", fn := fun _ => fun
  | [d] => { results := [.lit (.bool true)], args := [d] }
  | _ => none }
def fnRelsLessRow : OpenClaim := { program := "ytfckmgeakdbdfaa", sum := "7f608e6105e24f83292d8c9673c897a86f3607277b230636dabed03d3b6bc288", func := "loop.example/wayboard/laws.FnRelsLess", spec := "fnRelsLess", unfollowed := true, recurses := true, plainKeys := false, apart := false }
def FnRelsLessSaid : Prop := fnRelsLessRow.holds Try.pinned (OpenSpec.ofChange fnRelsLessSpec)

/-- ITS FALSE NEIGHBOUR: 'it returns false'. Refute it at one input. -/
def fnRelsLessWrong : ChangeSpec := { name := "fnRelsLess", fn := fun _ => fun
  | [d] => { results := [.lit (.bool false)], args := [d] }
  | _ => none }
def FnRelsLessWrongFalsely : Prop := fnRelsLessRow.holds Try.pinned (OpenSpec.ofChange fnRelsLessWrong)

/-- 'laws.FnRelsRing': WHATEVER THE INPUT: true; the input reads as it did. -/
def fnRelsRingSpec : ChangeSpec := { name := "fnRelsRing", fn := fun _ => fun
  | [d] => { results := [.lit (.bool true)], args := [d] }
  | _ => none }
def fnRelsRingRow : OpenClaim := { program := "ytfckmgeakdbdfaa", sum := "7f608e6105e24f83292d8c9673c897a86f3607277b230636dabed03d3b6bc288", func := "loop.example/wayboard/laws.FnRelsRing", spec := "fnRelsRing", unfollowed := true, recurses := true, plainKeys := false, apart := false }
def FnRelsRingSaid : Prop := fnRelsRingRow.holds Try.pinned (OpenSpec.ofChange fnRelsRingSpec)

/-- ITS FALSE NEIGHBOUR: 'it returns false'. Refute it at one input. -/
def fnRelsRingWrong : ChangeSpec := { name := "fnRelsRing", fn := fun _ => fun
  | [d] => { results := [.lit (.bool false)], args := [d] }
  | _ => none }
def FnRelsRingWrongFalsely : Prop := fnRelsRingRow.holds Try.pinned (OpenSpec.ofChange fnRelsRingWrong)

/-- 'laws.FnRelsPeers': WHATEVER THE INPUT: true; the input reads as it did. -/
def fnRelsPeersSpec : ChangeSpec := { name := "fnRelsPeers", fn := fun _ => fun
  | [d1, d2] => { results := [.lit (.bool true)], args := [d1, d2] }
  | _ => none }
def fnRelsPeersRow : OpenClaim := { program := "ytfckmgeakdbdfaa", sum := "7f608e6105e24f83292d8c9673c897a86f3607277b230636dabed03d3b6bc288", func := "loop.example/wayboard/laws.FnRelsPeers", spec := "fnRelsPeers", unfollowed := true, recurses := true, plainKeys := false, apart := false }
def FnRelsPeersSaid : Prop := fnRelsPeersRow.holds Try.pinned (OpenSpec.ofChange fnRelsPeersSpec)

/-- ITS FALSE NEIGHBOUR: 'it returns false'. Refute it at one input. -/
def fnRelsPeersWrong : ChangeSpec := { name := "fnRelsPeers", fn := fun _ => fun
  | [d1, d2] => { results := [.lit (.bool false)], args := [d1, d2] }
  | _ => none }
def FnRelsPeersWrongFalsely : Prop := fnRelsPeersRow.holds Try.pinned (OpenSpec.ofChange fnRelsPeersWrong)

/-- 'laws.FnRelsOrder': WHATEVER THE INPUT: true; the input reads as it did. -/
def fnRelsOrderSpec : ChangeSpec := { name := "fnRelsOrder", fn := fun _ => fun
  | [d] => { results := [.lit (.bool true)], args := [d] }
  | _ => none }
def fnRelsOrderRow : OpenClaim := { program := "ytfckmgeakdbdfaa", sum := "7f608e6105e24f83292d8c9673c897a86f3607277b230636dabed03d3b6bc288", func := "loop.example/wayboard/laws.FnRelsOrder", spec := "fnRelsOrder", unfollowed := true, recurses := true, plainKeys := false, apart := false }
def FnRelsOrderSaid : Prop := fnRelsOrderRow.holds Try.pinned (OpenSpec.ofChange fnRelsOrderSpec)

/-- ITS FALSE NEIGHBOUR: 'it returns false'. Refute it at one input. -/
def fnRelsOrderWrong : ChangeSpec := { name := "fnRelsOrder", fn := fun _ => fun
  | [d] => { results := [.lit (.bool false)], args := [d] }
  | _ => none }
def FnRelsOrderWrongFalsely : Prop := fnRelsOrderRow.holds Try.pinned (OpenSpec.ofChange fnRelsOrderWrong)

/- THE SECOND FORM. 'bulk': how many values and letters a reading holds, each counted each time it is reached (what is shared counts as often as it is met; a slice's spare places count too). A statement '..UptoSaid' is the law's where the arguments, and the package variables that the reading takes, are together of bulk at most 1048576: NARROWER than '..Said'. Prove '..Said' where nothing that the law and all that it calls make is longer than what came in: it says more and counts as full. Else prove '..UptoSaid'. A law counts once. -/
mutual
def uptoBulk {H : Type} : DataW H → Nat
  | .lit (.string bytes) => bytes.length + 1
  | .lit _ => 1
  | .nil => 1
  | .ptr d => uptoBulk d + 1
  | .slice elems spare => uptoBulkAll elems + uptoBulkAll spare + 1
  | .agg parts => uptoBulkAll parts + 1
  | .iface _ d => uptoBulk d + 1
  | .map entries => uptoBulkEntries entries + 1
  | .held _ => 1
def uptoBulkAll {H : Type} : List (DataW H) → Nat
  | [] => 0
  | d :: r => uptoBulk d + uptoBulkAll r
def uptoBulkEntries {H : Type} : List (Lit × DataW H) → Nat
  | [] => 0
  | x :: r => uptoBulkEntry x + uptoBulkEntries r
def uptoBulkEntry {H : Type} : Lit × DataW H → Nat
  | (.string bytes, d) => bytes.length + uptoBulk d + 1
  | (_, d) => uptoBulk d + 1
 end
def uptoSmall : (H : Type) → List (DataW H) → Bool := fun _ ds => decide (uptoBulkAll ds ≤ 1048576)
def OpenSpec.upto (s : _root_.Go.ChangeSpec) : _root_.Go.OpenSpec := { _root_.Go.OpenSpec.ofChange s with cond := some uptoSmall }

/-- 'laws.FnRelsForm', WHERE WHAT IT READS IS OF BULK AT MOST 1048576: true; the input reads as it did. -/
def fnRelsFormUptoRow : OpenClaim := { program := "ytfckmgeakdbdfaa", sum := "7f608e6105e24f83292d8c9673c897a86f3607277b230636dabed03d3b6bc288", func := "loop.example/wayboard/laws.FnRelsForm", spec := "fnRelsForm", plainKeys := false, apart := false, narrowed := true }
def FnRelsFormUptoSaid : Prop := fnRelsFormUptoRow.holds Try.pinned (OpenSpec.upto fnRelsFormSpec)

/-- 'laws.FnRelBack', WHERE WHAT IT READS IS OF BULK AT MOST 1048576: true; the input reads as it did. -/
def fnRelBackUptoRow : OpenClaim := { program := "ytfckmgeakdbdfaa", sum := "7f608e6105e24f83292d8c9673c897a86f3607277b230636dabed03d3b6bc288", func := "loop.example/wayboard/laws.FnRelBack", spec := "fnRelBack", plainKeys := false, apart := false, narrowed := true }
def FnRelBackUptoSaid : Prop := fnRelBackUptoRow.holds Try.pinned (OpenSpec.upto fnRelBackSpec)

/-- 'laws.FnRelMay', WHERE WHAT IT READS IS OF BULK AT MOST 1048576: true; the input reads as it did. -/
def fnRelMayUptoRow : OpenClaim := { program := "ytfckmgeakdbdfaa", sum := "7f608e6105e24f83292d8c9673c897a86f3607277b230636dabed03d3b6bc288", func := "loop.example/wayboard/laws.FnRelMay", spec := "fnRelMay", plainKeys := false, apart := false, narrowed := true }
def FnRelMayUptoSaid : Prop := fnRelMayUptoRow.holds Try.pinned (OpenSpec.upto fnRelMaySpec)

/-- 'laws.FnRelTell', WHERE WHAT IT READS IS OF BULK AT MOST 1048576: true; the input reads as it did. -/
def fnRelTellUptoRow : OpenClaim := { program := "ytfckmgeakdbdfaa", sum := "7f608e6105e24f83292d8c9673c897a86f3607277b230636dabed03d3b6bc288", func := "loop.example/wayboard/laws.FnRelTell", spec := "fnRelTell", plainKeys := false, apart := false, narrowed := true }
def FnRelTellUptoSaid : Prop := fnRelTellUptoRow.holds Try.pinned (OpenSpec.upto fnRelTellSpec)

/-- 'laws.FnValley', WHERE WHAT IT READS IS OF BULK AT MOST 1048576: true; the input reads as it did. -/
def fnValleyUptoRow : OpenClaim := { program := "ytfckmgeakdbdfaa", sum := "7f608e6105e24f83292d8c9673c897a86f3607277b230636dabed03d3b6bc288", func := "loop.example/wayboard/laws.FnValley", spec := "fnValley", plainKeys := false, apart := false, narrowed := true }
def FnValleyUptoSaid : Prop := fnValleyUptoRow.holds Try.pinned (OpenSpec.upto fnValleySpec)

/-- 'laws.FnExactNetNone', WHERE WHAT IT READS IS OF BULK AT MOST 1048576: true; the input reads as it did. -/
def fnExactNetNoneUptoRow : OpenClaim := { program := "ytfckmgeakdbdfaa", sum := "7f608e6105e24f83292d8c9673c897a86f3607277b230636dabed03d3b6bc288", func := "loop.example/wayboard/laws.FnExactNetNone", spec := "fnExactNetNone", plainKeys := false, apart := false, narrowed := true }
def FnExactNetNoneUptoSaid : Prop := fnExactNetNoneUptoRow.holds Try.pinned (OpenSpec.upto fnExactNetNoneSpec)

/-- 'laws.FnRelsLess', WHERE WHAT IT READS IS OF BULK AT MOST 1048576: true; the input reads as it did. -/
def fnRelsLessUptoRow : OpenClaim := { program := "ytfckmgeakdbdfaa", sum := "7f608e6105e24f83292d8c9673c897a86f3607277b230636dabed03d3b6bc288", func := "loop.example/wayboard/laws.FnRelsLess", spec := "fnRelsLess", unfollowed := true, recurses := true, plainKeys := false, apart := false, narrowed := true }
def FnRelsLessUptoSaid : Prop := fnRelsLessUptoRow.holds Try.pinned (OpenSpec.upto fnRelsLessSpec)

/-- 'laws.FnRelsRing', WHERE WHAT IT READS IS OF BULK AT MOST 1048576: true; the input reads as it did. -/
def fnRelsRingUptoRow : OpenClaim := { program := "ytfckmgeakdbdfaa", sum := "7f608e6105e24f83292d8c9673c897a86f3607277b230636dabed03d3b6bc288", func := "loop.example/wayboard/laws.FnRelsRing", spec := "fnRelsRing", unfollowed := true, recurses := true, plainKeys := false, apart := false, narrowed := true }
def FnRelsRingUptoSaid : Prop := fnRelsRingUptoRow.holds Try.pinned (OpenSpec.upto fnRelsRingSpec)

/-- 'laws.FnRelsPeers', WHERE WHAT IT READS IS OF BULK AT MOST 1048576: true; the input reads as it did. -/
def fnRelsPeersUptoRow : OpenClaim := { program := "ytfckmgeakdbdfaa", sum := "7f608e6105e24f83292d8c9673c897a86f3607277b230636dabed03d3b6bc288", func := "loop.example/wayboard/laws.FnRelsPeers", spec := "fnRelsPeers", unfollowed := true, recurses := true, plainKeys := false, apart := false, narrowed := true }
def FnRelsPeersUptoSaid : Prop := fnRelsPeersUptoRow.holds Try.pinned (OpenSpec.upto fnRelsPeersSpec)

/-- 'laws.FnRelsOrder', WHERE WHAT IT READS IS OF BULK AT MOST 1048576: true; the input reads as it did. -/
def fnRelsOrderUptoRow : OpenClaim := { program := "ytfckmgeakdbdfaa", sum := "7f608e6105e24f83292d8c9673c897a86f3607277b230636dabed03d3b6bc288", func := "loop.example/wayboard/laws.FnRelsOrder", spec := "fnRelsOrder", unfollowed := true, recurses := true, plainKeys := false, apart := false, narrowed := true }
def FnRelsOrderUptoSaid : Prop := fnRelsOrderUptoRow.holds Try.pinned (OpenSpec.upto fnRelsOrderSpec)

end Rows
end Go.Proofs.Ytfckmgeakdbdfaa
