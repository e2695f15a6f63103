/-
  No cell of these rows narrows 'for every input' (looked for: loops, veiled, ifaces, maps, wideKeys, modest, calm, conditions, laid).
  DERIVED. THE GIVEN ROWS OF THIS SEAT. 12 by the template 'for every input the law returns true; each argument reads behind the call as it read before'; 0 by the template 'total and deterministic' (their statements: YtgajgjhanpnbdaaTotals.lean).
  GIVEN WITH THE SEED: the statements are not yours to turn. If you find one false, say at which input.
  Laid BY PROGRAM, IN A SANDBOX (cutbox-rows.mjs): the forced cells as the released guide's own fill.sh prints them over the translation cdd512639896427e… (all of the seat's roots in one cut). By AI agents, Wed Nov 11 2026. No macro, syntax, notation, axiom, sorry.
-/
import Derived.Test.YtgajgjhanpnbdaaChecked
import GoSem.Claim
import GoSem.ClaimJoined
import GoSem.ClaimMapViews
import Derived.JoinedTies
import Derived.KernelRfl
namespace Go.Proofs.Ytgajgjhanpnbdaa
/- THE CELL 'sum', in the pinned program and in every row, IS THE sha256 OF THE DUMP (.gsa) THAT YtgajgjhanpnbdaaProg.lean LOADS. Nothing in Lean hashes anything: it is a label: what it is worth is what the hold of that sum in a sandbox is worth. -/
noncomputable def Try.pinned : Pinned := { name := "ytgajgjhanpnbdaa", sum := "cdd512639896427eca710286ef0fd61b38a7442fd7d5210a64e4c24f20a87bc2", checked := Try.checked }
namespace Rows
def none {H : Type} : Left H := { results := [], args := [] }

/-- 'laws.FnHalf': WHATEVER THE INPUT: true; the input reads as it did. -/
def fnHalfSpec : ChangeSpec := { name := "fnHalf", fn := fun _ => fun
  | [d] => { results := [.lit (.bool true)], args := [d] }
  | _ => none }
def fnHalfRow : OpenClaim := { program := "ytgajgjhanpnbdaa", sum := "cdd512639896427eca710286ef0fd61b38a7442fd7d5210a64e4c24f20a87bc2", func := "loop.example/wayboard/laws.FnHalf", spec := "fnHalf", unfollowed := true, recurses := true, plainKeys := false, apart := false }
def FnHalfSaid : Prop := fnHalfRow.holds Try.pinned (OpenSpec.ofChange fnHalfSpec)

/-- ITS FALSE NEIGHBOUR: 'it returns false'. Refute it at one input. -/
def fnHalfWrong : ChangeSpec := { name := "fnHalf", fn := fun _ => fun
  | [d] => { results := [.lit (.bool false)], args := [d] }
  | _ => none }
def FnHalfWrongFalsely : Prop := fnHalfRow.holds Try.pinned (OpenSpec.ofChange fnHalfWrong)

/-- 'laws.FnRangeApart': WHATEVER THE INPUT: true; the input reads as it did. -/
def fnRangeApartSpec : ChangeSpec := { name := "fnRangeApart", fn := fun _ => fun
  | [d] => { results := [.lit (.bool true)], args := [d] }
  | _ => none }
def fnRangeApartRow : OpenClaim := { program := "ytgajgjhanpnbdaa", sum := "cdd512639896427eca710286ef0fd61b38a7442fd7d5210a64e4c24f20a87bc2", func := "loop.example/wayboard/laws.FnRangeApart", spec := "fnRangeApart", plainKeys := false, apart := false }
def FnRangeApartSaid : Prop := fnRangeApartRow.holds Try.pinned (OpenSpec.ofChange fnRangeApartSpec)

/-- ITS FALSE NEIGHBOUR: 'it returns false'. Refute it at one input. -/
def fnRangeApartWrong : ChangeSpec := { name := "fnRangeApart", fn := fun _ => fun
  | [d] => { results := [.lit (.bool false)], args := [d] }
  | _ => none }
def FnRangeApartWrongFalsely : Prop := fnRangeApartRow.holds Try.pinned (OpenSpec.ofChange fnRangeApartWrong)

/-- 'laws.FnRangeIn': WHATEVER THE INPUT: true; the input reads as it did. -/
def fnRangeInSpec : ChangeSpec := { name := "fnRangeIn", fn := fun _ => fun
  | [d] => { results := [.lit (.bool true)], args := [d] }
  | _ => none }
def fnRangeInRow : OpenClaim := { program := "ytgajgjhanpnbdaa", sum := "cdd512639896427eca710286ef0fd61b38a7442fd7d5210a64e4c24f20a87bc2", func := "loop.example/wayboard/laws.FnRangeIn", spec := "fnRangeIn", plainKeys := false, apart := false }
def FnRangeInSaid : Prop := fnRangeInRow.holds Try.pinned (OpenSpec.ofChange fnRangeInSpec)

/-- ITS FALSE NEIGHBOUR: 'it returns false'. Refute it at one input. -/
def fnRangeInWrong : ChangeSpec := { name := "fnRangeIn", fn := fun _ => fun
  | [d] => { results := [.lit (.bool false)], args := [d] }
  | _ => none }
def FnRangeInWrongFalsely : Prop := fnRangeInRow.holds Try.pinned (OpenSpec.ofChange fnRangeInWrong)

/-- 'laws.FnHalves': WHATEVER THE INPUT: true; the input reads as it did. -/
def fnHalvesSpec : ChangeSpec := { name := "fnHalves", fn := fun _ => fun
  | [d] => { results := [.lit (.bool true)], args := [d] }
  | _ => none }
def fnHalvesRow : OpenClaim := { program := "ytgajgjhanpnbdaa", sum := "cdd512639896427eca710286ef0fd61b38a7442fd7d5210a64e4c24f20a87bc2", func := "loop.example/wayboard/laws.FnHalves", spec := "fnHalves", unfollowed := true, recurses := true, plainKeys := false, apart := false }
def FnHalvesSaid : Prop := fnHalvesRow.holds Try.pinned (OpenSpec.ofChange fnHalvesSpec)

/-- ITS FALSE NEIGHBOUR: 'it returns false'. Refute it at one input. -/
def fnHalvesWrong : ChangeSpec := { name := "fnHalves", fn := fun _ => fun
  | [d] => { results := [.lit (.bool false)], args := [d] }
  | _ => none }
def FnHalvesWrongFalsely : Prop := fnHalvesRow.holds Try.pinned (OpenSpec.ofChange fnHalvesWrong)

/-- 'laws.FnRangeThree': WHATEVER THE INPUT: true; the input reads as it did. -/
def fnRangeThreeSpec : ChangeSpec := { name := "fnRangeThree", fn := fun _ => fun
  | [d1, d2] => { results := [.lit (.bool true)], args := [d1, d2] }
  | _ => none }
def fnRangeThreeRow : OpenClaim := { program := "ytgajgjhanpnbdaa", sum := "cdd512639896427eca710286ef0fd61b38a7442fd7d5210a64e4c24f20a87bc2", func := "loop.example/wayboard/laws.FnRangeThree", spec := "fnRangeThree", plainKeys := false, apart := false }
def FnRangeThreeSaid : Prop := fnRangeThreeRow.holds Try.pinned (OpenSpec.ofChange fnRangeThreeSpec)

/-- ITS FALSE NEIGHBOUR: 'it returns false'. Refute it at one input. -/
def fnRangeThreeWrong : ChangeSpec := { name := "fnRangeThree", fn := fun _ => fun
  | [d1, d2] => { results := [.lit (.bool false)], args := [d1, d2] }
  | _ => none }
def FnRangeThreeWrongFalsely : Prop := fnRangeThreeRow.holds Try.pinned (OpenSpec.ofChange fnRangeThreeWrong)

/-- 'laws.FnRelsForm': WHATEVER THE INPUT: true; the input reads as it did. -/
def fnRelsFormSpec : ChangeSpec := { name := "fnRelsForm", fn := fun _ => fun
  | [d1, d2] => { results := [.lit (.bool true)], args := [d1, d2] }
  | _ => none }
def fnRelsFormRow : OpenClaim := { program := "ytgajgjhanpnbdaa", sum := "cdd512639896427eca710286ef0fd61b38a7442fd7d5210a64e4c24f20a87bc2", func := "loop.example/wayboard/laws.FnRelsForm", spec := "fnRelsForm", plainKeys := false, apart := false }
def FnRelsFormSaid : Prop := fnRelsFormRow.holds Try.pinned (OpenSpec.ofChange fnRelsFormSpec)

/-- ITS FALSE NEIGHBOUR: 'it returns false'. Refute it at one input. -/
def fnRelsFormWrong : ChangeSpec := { name := "fnRelsForm", fn := fun _ => fun
  | [d1, d2] => { results := [.lit (.bool false)], args := [d1, d2] }
  | _ => none }
def FnRelsFormWrongFalsely : Prop := fnRelsFormRow.holds Try.pinned (OpenSpec.ofChange fnRelsFormWrong)

/-- 'laws.FnRangeCmp': WHATEVER THE INPUT: true; the input reads as it did. -/
def fnRangeCmpSpec : ChangeSpec := { name := "fnRangeCmp", fn := fun _ => fun
  | [d] => { results := [.lit (.bool true)], args := [d] }
  | _ => none }
def fnRangeCmpRow : OpenClaim := { program := "ytgajgjhanpnbdaa", sum := "cdd512639896427eca710286ef0fd61b38a7442fd7d5210a64e4c24f20a87bc2", func := "loop.example/wayboard/laws.FnRangeCmp", spec := "fnRangeCmp", plainKeys := false, apart := false }
def FnRangeCmpSaid : Prop := fnRangeCmpRow.holds Try.pinned (OpenSpec.ofChange fnRangeCmpSpec)

/-- ITS FALSE NEIGHBOUR: 'it returns false'. Refute it at one input. -/
def fnRangeCmpWrong : ChangeSpec := { name := "fnRangeCmp", fn := fun _ => fun
  | [d] => { results := [.lit (.bool false)], args := [d] }
  | _ => none }
def FnRangeCmpWrongFalsely : Prop := fnRangeCmpRow.holds Try.pinned (OpenSpec.ofChange fnRangeCmpWrong)

/-- 'laws.FnHold': WHATEVER THE INPUT: true; the input reads as it did. -/
def fnHoldSpec : ChangeSpec := { name := "fnHold", fn := fun _ => fun
  | [d] => { results := [.lit (.bool true)], args := [d] }
  | _ => none }
def fnHoldRow : OpenClaim := { program := "ytgajgjhanpnbdaa", sum := "cdd512639896427eca710286ef0fd61b38a7442fd7d5210a64e4c24f20a87bc2", func := "loop.example/wayboard/laws.FnHold", spec := "fnHold", unfollowed := true, recurses := true, plainKeys := false, apart := false }
def FnHoldSaid : Prop := fnHoldRow.holds Try.pinned (OpenSpec.ofChange fnHoldSpec)

/-- ITS FALSE NEIGHBOUR: 'it returns false'. Refute it at one input. -/
def fnHoldWrong : ChangeSpec := { name := "fnHold", fn := fun _ => fun
  | [d] => { results := [.lit (.bool false)], args := [d] }
  | _ => none }
def FnHoldWrongFalsely : Prop := fnHoldRow.holds Try.pinned (OpenSpec.ofChange fnHoldWrong)

/-- 'laws.FnRangeOrder': WHATEVER THE INPUT: true; the input reads as it did. -/
def fnRangeOrderSpec : ChangeSpec := { name := "fnRangeOrder", fn := fun _ => fun
  | [d1, d2] => { results := [.lit (.bool true)], args := [d1, d2] }
  | _ => none }
def fnRangeOrderRow : OpenClaim := { program := "ytgajgjhanpnbdaa", sum := "cdd512639896427eca710286ef0fd61b38a7442fd7d5210a64e4c24f20a87bc2", func := "loop.example/wayboard/laws.FnRangeOrder", spec := "fnRangeOrder", plainKeys := false, apart := false }
def FnRangeOrderSaid : Prop := fnRangeOrderRow.holds Try.pinned (OpenSpec.ofChange fnRangeOrderSpec)

/-- ITS FALSE NEIGHBOUR: 'it returns false'. Refute it at one input. -/
def fnRangeOrderWrong : ChangeSpec := { name := "fnRangeOrder", fn := fun _ => fun
  | [d1, d2] => { results := [.lit (.bool false)], args := [d1, d2] }
  | _ => none }
def FnRangeOrderWrongFalsely : Prop := fnRangeOrderRow.holds Try.pinned (OpenSpec.ofChange fnRangeOrderWrong)

/-- 'laws.FnClauseForm': WHATEVER THE INPUT: true; the input reads as it did. -/
def fnClauseFormSpec : ChangeSpec := { name := "fnClauseForm", fn := fun _ => fun
  | [d] => { results := [.lit (.bool true)], args := [d] }
  | _ => none }
def fnClauseFormRow : OpenClaim := { program := "ytgajgjhanpnbdaa", sum := "cdd512639896427eca710286ef0fd61b38a7442fd7d5210a64e4c24f20a87bc2", func := "loop.example/wayboard/laws.FnClauseForm", spec := "fnClauseForm", plainKeys := false, apart := false }
def FnClauseFormSaid : Prop := fnClauseFormRow.holds Try.pinned (OpenSpec.ofChange fnClauseFormSpec)

/-- ITS FALSE NEIGHBOUR: 'it returns false'. Refute it at one input. -/
def fnClauseFormWrong : ChangeSpec := { name := "fnClauseForm", fn := fun _ => fun
  | [d] => { results := [.lit (.bool false)], args := [d] }
  | _ => none }
def FnClauseFormWrongFalsely : Prop := fnClauseFormRow.holds Try.pinned (OpenSpec.ofChange fnClauseFormWrong)

/-- 'laws.FnTableForm': WHATEVER THE INPUT: true; the input reads as it did. -/
def fnTableFormSpec : ChangeSpec := { name := "fnTableForm", fn := fun _ => fun
  | [d1, d2] => { results := [.lit (.bool true)], args := [d1, d2] }
  | _ => none }
def fnTableFormRow : OpenClaim := { program := "ytgajgjhanpnbdaa", sum := "cdd512639896427eca710286ef0fd61b38a7442fd7d5210a64e4c24f20a87bc2", func := "loop.example/wayboard/laws.FnTableForm", spec := "fnTableForm", plainKeys := false, apart := false }
def FnTableFormSaid : Prop := fnTableFormRow.holds Try.pinned (OpenSpec.ofChange fnTableFormSpec)

/-- ITS FALSE NEIGHBOUR: 'it returns false'. Refute it at one input. -/
def fnTableFormWrong : ChangeSpec := { name := "fnTableForm", fn := fun _ => fun
  | [d1, d2] => { results := [.lit (.bool false)], args := [d1, d2] }
  | _ => none }
def FnTableFormWrongFalsely : Prop := fnTableFormRow.holds Try.pinned (OpenSpec.ofChange fnTableFormWrong)

/-- 'laws.FnPolicyForm': WHATEVER THE INPUT: true; the input reads as it did. -/
def fnPolicyFormSpec : ChangeSpec := { name := "fnPolicyForm", fn := fun _ => fun
  | [d1, d2] => { results := [.lit (.bool true)], args := [d1, d2] }
  | _ => none }
def fnPolicyFormRow : OpenClaim := { program := "ytgajgjhanpnbdaa", sum := "cdd512639896427eca710286ef0fd61b38a7442fd7d5210a64e4c24f20a87bc2", func := "loop.example/wayboard/laws.FnPolicyForm", spec := "fnPolicyForm", unfollowed := true, recurses := true, plainKeys := false, apart := false }
def FnPolicyFormSaid : Prop := fnPolicyFormRow.holds Try.pinned (OpenSpec.ofChange fnPolicyFormSpec)

/-- ITS FALSE NEIGHBOUR: 'it returns false'. Refute it at one input. -/
def fnPolicyFormWrong : ChangeSpec := { name := "fnPolicyForm", fn := fun _ => fun
  | [d1, d2] => { results := [.lit (.bool false)], args := [d1, d2] }
  | _ => none }
def FnPolicyFormWrongFalsely : Prop := fnPolicyFormRow.holds Try.pinned (OpenSpec.ofChange fnPolicyFormWrong)

/- THE SECOND FORM. 'bulk': how many values and letters a reading holds, each counted each time it is reached (what is shared counts as often as it is met; a slice's spare places count too). A statement '..UptoSaid' is the law's where the arguments, and the package variables that the reading takes, are together of bulk at most 1048576: NARROWER than '..Said'. Prove '..Said' where nothing that the law and all that it calls make is longer than what came in: it says more and counts as full. Else prove '..UptoSaid'. A law counts once. -/
mutual
def uptoBulk {H : Type} : DataW H → Nat
  | .lit (.string bytes) => bytes.length + 1
  | .lit _ => 1
  | .nil => 1
  | .ptr d => uptoBulk d + 1
  | .slice elems spare => uptoBulkAll elems + uptoBulkAll spare + 1
  | .agg parts => uptoBulkAll parts + 1
  | .iface _ d => uptoBulk d + 1
  | .map entries => uptoBulkEntries entries + 1
  | .held _ => 1
def uptoBulkAll {H : Type} : List (DataW H) → Nat
  | [] => 0
  | d :: r => uptoBulk d + uptoBulkAll r
def uptoBulkEntries {H : Type} : List (Lit × DataW H) → Nat
  | [] => 0
  | x :: r => uptoBulkEntry x + uptoBulkEntries r
def uptoBulkEntry {H : Type} : Lit × DataW H → Nat
  | (.string bytes, d) => bytes.length + uptoBulk d + 1
  | (_, d) => uptoBulk d + 1
 end
def uptoSmall : (H : Type) → List (DataW H) → Bool := fun _ ds => decide (uptoBulkAll ds ≤ 1048576)
def OpenSpec.upto (s : _root_.Go.ChangeSpec) : _root_.Go.OpenSpec := { _root_.Go.OpenSpec.ofChange s with cond := some uptoSmall }

/-- 'laws.FnHalf', WHERE WHAT IT READS IS OF BULK AT MOST 1048576: true; the input reads as it did. -/
def fnHalfUptoRow : OpenClaim := { program := "ytgajgjhanpnbdaa", sum := "cdd512639896427eca710286ef0fd61b38a7442fd7d5210a64e4c24f20a87bc2", func := "loop.example/wayboard/laws.FnHalf", spec := "fnHalf", unfollowed := true, recurses := true, plainKeys := false, apart := false, narrowed := true }
def FnHalfUptoSaid : Prop := fnHalfUptoRow.holds Try.pinned (OpenSpec.upto fnHalfSpec)

/-- 'laws.FnRangeApart', WHERE WHAT IT READS IS OF BULK AT MOST 1048576: true; the input reads as it did. -/
def fnRangeApartUptoRow : OpenClaim := { program := "ytgajgjhanpnbdaa", sum := "cdd512639896427eca710286ef0fd61b38a7442fd7d5210a64e4c24f20a87bc2", func := "loop.example/wayboard/laws.FnRangeApart", spec := "fnRangeApart", plainKeys := false, apart := false, narrowed := true }
def FnRangeApartUptoSaid : Prop := fnRangeApartUptoRow.holds Try.pinned (OpenSpec.upto fnRangeApartSpec)

/-- 'laws.FnRangeIn', WHERE WHAT IT READS IS OF BULK AT MOST 1048576: true; the input reads as it did. -/
def fnRangeInUptoRow : OpenClaim := { program := "ytgajgjhanpnbdaa", sum := "cdd512639896427eca710286ef0fd61b38a7442fd7d5210a64e4c24f20a87bc2", func := "loop.example/wayboard/laws.FnRangeIn", spec := "fnRangeIn", plainKeys := false, apart := false, narrowed := true }
def FnRangeInUptoSaid : Prop := fnRangeInUptoRow.holds Try.pinned (OpenSpec.upto fnRangeInSpec)

/-- 'laws.FnHalves', WHERE WHAT IT READS IS OF BULK AT MOST 1048576: true; the input reads as it did. -/
def fnHalvesUptoRow : OpenClaim := { program := "ytgajgjhanpnbdaa", sum := "cdd512639896427eca710286ef0fd61b38a7442fd7d5210a64e4c24f20a87bc2", func := "loop.example/wayboard/laws.FnHalves", spec := "fnHalves", unfollowed := true, recurses := true, plainKeys := false, apart := false, narrowed := true }
def FnHalvesUptoSaid : Prop := fnHalvesUptoRow.holds Try.pinned (OpenSpec.upto fnHalvesSpec)

/-- 'laws.FnRangeThree', WHERE WHAT IT READS IS OF BULK AT MOST 1048576: true; the input reads as it did. -/
def fnRangeThreeUptoRow : OpenClaim := { program := "ytgajgjhanpnbdaa", sum := "cdd512639896427eca710286ef0fd61b38a7442fd7d5210a64e4c24f20a87bc2", func := "loop.example/wayboard/laws.FnRangeThree", spec := "fnRangeThree", plainKeys := false, apart := false, narrowed := true }
def FnRangeThreeUptoSaid : Prop := fnRangeThreeUptoRow.holds Try.pinned (OpenSpec.upto fnRangeThreeSpec)

/-- 'laws.FnRelsForm', WHERE WHAT IT READS IS OF BULK AT MOST 1048576: true; the input reads as it did. -/
def fnRelsFormUptoRow : OpenClaim := { program := "ytgajgjhanpnbdaa", sum := "cdd512639896427eca710286ef0fd61b38a7442fd7d5210a64e4c24f20a87bc2", func := "loop.example/wayboard/laws.FnRelsForm", spec := "fnRelsForm", plainKeys := false, apart := false, narrowed := true }
def FnRelsFormUptoSaid : Prop := fnRelsFormUptoRow.holds Try.pinned (OpenSpec.upto fnRelsFormSpec)

/-- 'laws.FnRangeCmp', WHERE WHAT IT READS IS OF BULK AT MOST 1048576: true; the input reads as it did. -/
def fnRangeCmpUptoRow : OpenClaim := { program := "ytgajgjhanpnbdaa", sum := "cdd512639896427eca710286ef0fd61b38a7442fd7d5210a64e4c24f20a87bc2", func := "loop.example/wayboard/laws.FnRangeCmp", spec := "fnRangeCmp", plainKeys := false, apart := false, narrowed := true }
def FnRangeCmpUptoSaid : Prop := fnRangeCmpUptoRow.holds Try.pinned (OpenSpec.upto fnRangeCmpSpec)

/-- 'laws.FnHold', WHERE WHAT IT READS IS OF BULK AT MOST 1048576: true; the input reads as it did. -/
def fnHoldUptoRow : OpenClaim := { program := "ytgajgjhanpnbdaa", sum := "cdd512639896427eca710286ef0fd61b38a7442fd7d5210a64e4c24f20a87bc2", func := "loop.example/wayboard/laws.FnHold", spec := "fnHold", unfollowed := true, recurses := true, plainKeys := false, apart := false, narrowed := true }
def FnHoldUptoSaid : Prop := fnHoldUptoRow.holds Try.pinned (OpenSpec.upto fnHoldSpec)

/-- 'laws.FnRangeOrder', WHERE WHAT IT READS IS OF BULK AT MOST 1048576: true; the input reads as it did. -/
def fnRangeOrderUptoRow : OpenClaim := { program := "ytgajgjhanpnbdaa", sum := "cdd512639896427eca710286ef0fd61b38a7442fd7d5210a64e4c24f20a87bc2", func := "loop.example/wayboard/laws.FnRangeOrder", spec := "fnRangeOrder", plainKeys := false, apart := false, narrowed := true }
def FnRangeOrderUptoSaid : Prop := fnRangeOrderUptoRow.holds Try.pinned (OpenSpec.upto fnRangeOrderSpec)

/-- 'laws.FnClauseForm', WHERE WHAT IT READS IS OF BULK AT MOST 1048576: true; the input reads as it did. -/
def fnClauseFormUptoRow : OpenClaim := { program := "ytgajgjhanpnbdaa", sum := "cdd512639896427eca710286ef0fd61b38a7442fd7d5210a64e4c24f20a87bc2", func := "loop.example/wayboard/laws.FnClauseForm", spec := "fnClauseForm", plainKeys := false, apart := false, narrowed := true }
def FnClauseFormUptoSaid : Prop := fnClauseFormUptoRow.holds Try.pinned (OpenSpec.upto fnClauseFormSpec)

/-- 'laws.FnTableForm', WHERE WHAT IT READS IS OF BULK AT MOST 1048576: true; the input reads as it did. -/
def fnTableFormUptoRow : OpenClaim := { program := "ytgajgjhanpnbdaa", sum := "cdd512639896427eca710286ef0fd61b38a7442fd7d5210a64e4c24f20a87bc2", func := "loop.example/wayboard/laws.FnTableForm", spec := "fnTableForm", plainKeys := false, apart := false, narrowed := true }
def FnTableFormUptoSaid : Prop := fnTableFormUptoRow.holds Try.pinned (OpenSpec.upto fnTableFormSpec)

/-- 'laws.FnPolicyForm', WHERE WHAT IT READS IS OF BULK AT MOST 1048576: true; the input reads as it did. -/
def fnPolicyFormUptoRow : OpenClaim := { program := "ytgajgjhanpnbdaa", sum := "cdd512639896427eca710286ef0fd61b38a7442fd7d5210a64e4c24f20a87bc2", func := "loop.example/wayboard/laws.FnPolicyForm", spec := "fnPolicyForm", unfollowed := true, recurses := true, plainKeys := false, apart := false, narrowed := true }
def FnPolicyFormUptoSaid : Prop := fnPolicyFormUptoRow.holds Try.pinned (OpenSpec.upto fnPolicyFormSpec)

end Rows
end Go.Proofs.Ytgajgjhanpnbdaa
