/-
  No cell of these rows narrows 'for every input' (looked for: loops, veiled, ifaces, maps, wideKeys, modest, calm, conditions, laid).
  DERIVED. THE GIVEN ROWS OF THIS SEAT. 12 by the template 'for every input the law returns true; each argument reads behind the call as it read before'; 0 by the template 'total and deterministic' (their statements: YtbhenfegklgkoaaTotals.lean).
  GIVEN WITH THE SEED: the statements are not yours to turn. If you find one false, say at which input.
  Laid BY PROGRAM, IN A SANDBOX (cutbox-rows.mjs): the forced cells as the released guide's own fill.sh prints them over the translation 34d842754b4a19c3… (all of the seat's roots in one cut). By AI agents, Wed Nov 11 2026. No macro, syntax, notation, axiom, sorry.
-/
import Derived.Test.YtbhenfegklgkoaaChecked
import GoSem.Claim
import GoSem.ClaimJoined
import GoSem.ClaimMapViews
import Derived.JoinedTies
import Derived.KernelRfl
namespace Go.Proofs.Ytbhenfegklgkoaa
/- THE CELL 'sum', in the pinned program and in every row, IS THE sha256 OF THE DUMP (.gsa) THAT YtbhenfegklgkoaaProg.lean LOADS. Nothing in Lean hashes anything: it is a label: what it is worth is what the hold of that sum in a sandbox is worth. -/
noncomputable def Try.pinned : Pinned := { name := "ytbhenfegklgkoaa", sum := "34d842754b4a19c348f3c6f93b8ecb16d91cf607a22dbdb4fe7f32b30e97098f", checked := Try.checked }
namespace Rows
def none {H : Type} : Left H := { results := [], args := [] }

/-- 'laws.FnTableForm': WHATEVER THE INPUT: true; the input reads as it did. -/
def fnTableFormSpec : ChangeSpec := { name := "fnTableForm", fn := fun _ => fun
  | [d1, d2] => { results := [.lit (.bool true)], args := [d1, d2] }
  | _ => none }
def fnTableFormRow : OpenClaim := { program := "ytbhenfegklgkoaa", sum := "34d842754b4a19c348f3c6f93b8ecb16d91cf607a22dbdb4fe7f32b30e97098f", func := "loop.example/wayboard/laws.FnTableForm", spec := "fnTableForm", apart := false }
def FnTableFormSaid : Prop := fnTableFormRow.holds Try.pinned (OpenSpec.ofChange fnTableFormSpec)

/-- ITS FALSE NEIGHBOUR: 'it returns false'. Refute it at one input. -/
def fnTableFormWrong : ChangeSpec := { name := "fnTableForm", fn := fun _ => fun
  | [d1, d2] => { results := [.lit (.bool false)], args := [d1, d2] }
  | _ => none }
def FnTableFormWrongFalsely : Prop := fnTableFormRow.holds Try.pinned (OpenSpec.ofChange fnTableFormWrong)

/-- 'laws.FnFind': WHATEVER THE INPUT: true; the input reads as it did. -/
def fnFindSpec : ChangeSpec := { name := "fnFind", fn := fun _ => fun
  | [d] => { results := [.lit (.bool true)], args := [d] }
  | _ => none }
def fnFindRow : OpenClaim := { program := "ytbhenfegklgkoaa", sum := "34d842754b4a19c348f3c6f93b8ecb16d91cf607a22dbdb4fe7f32b30e97098f", func := "loop.example/wayboard/laws.FnFind", spec := "fnFind", apart := false }
def FnFindSaid : Prop := fnFindRow.holds Try.pinned (OpenSpec.ofChange fnFindSpec)

/-- ITS FALSE NEIGHBOUR: 'it returns false'. Refute it at one input. -/
def fnFindWrong : ChangeSpec := { name := "fnFind", fn := fun _ => fun
  | [d] => { results := [.lit (.bool false)], args := [d] }
  | _ => none }
def FnFindWrongFalsely : Prop := fnFindRow.holds Try.pinned (OpenSpec.ofChange fnFindWrong)

/-- 'laws.FnFindRange': WHATEVER THE INPUT: true; the input reads as it did. -/
def fnFindRangeSpec : ChangeSpec := { name := "fnFindRange", fn := fun _ => fun
  | [d1, d2] => { results := [.lit (.bool true)], args := [d1, d2] }
  | _ => none }
def fnFindRangeRow : OpenClaim := { program := "ytbhenfegklgkoaa", sum := "34d842754b4a19c348f3c6f93b8ecb16d91cf607a22dbdb4fe7f32b30e97098f", func := "loop.example/wayboard/laws.FnFindRange", spec := "fnFindRange", apart := false }
def FnFindRangeSaid : Prop := fnFindRangeRow.holds Try.pinned (OpenSpec.ofChange fnFindRangeSpec)

/-- ITS FALSE NEIGHBOUR: 'it returns false'. Refute it at one input. -/
def fnFindRangeWrong : ChangeSpec := { name := "fnFindRange", fn := fun _ => fun
  | [d1, d2] => { results := [.lit (.bool false)], args := [d1, d2] }
  | _ => none }
def FnFindRangeWrongFalsely : Prop := fnFindRangeRow.holds Try.pinned (OpenSpec.ofChange fnFindRangeWrong)

/-- 'laws.FnTableSame': WHATEVER THE INPUT: true; the input reads as it did. -/
def fnTableSameSpec : ChangeSpec := { name := "fnTableSame", fn := fun _ => fun
  | [d] => { results := [.lit (.bool true)], args := [d] }
  | _ => none }
def fnTableSameRow : OpenClaim := { program := "ytbhenfegklgkoaa", sum := "34d842754b4a19c348f3c6f93b8ecb16d91cf607a22dbdb4fe7f32b30e97098f", func := "loop.example/wayboard/laws.FnTableSame", spec := "fnTableSame", apart := false }
def FnTableSameSaid : Prop := fnTableSameRow.holds Try.pinned (OpenSpec.ofChange fnTableSameSpec)

/-- ITS FALSE NEIGHBOUR: 'it returns false'. Refute it at one input. -/
def fnTableSameWrong : ChangeSpec := { name := "fnTableSame", fn := fun _ => fun
  | [d] => { results := [.lit (.bool false)], args := [d] }
  | _ => none }
def FnTableSameWrongFalsely : Prop := fnTableSameRow.holds Try.pinned (OpenSpec.ofChange fnTableSameWrong)

/-- 'laws.FnPutSame': WHATEVER THE INPUT: true; the input reads as it did. -/
def fnPutSameSpec : ChangeSpec := { name := "fnPutSame", fn := fun _ => fun
  | [d] => { results := [.lit (.bool true)], args := [d] }
  | _ => none }
def fnPutSameRow : OpenClaim := { program := "ytbhenfegklgkoaa", sum := "34d842754b4a19c348f3c6f93b8ecb16d91cf607a22dbdb4fe7f32b30e97098f", func := "loop.example/wayboard/laws.FnPutSame", spec := "fnPutSame", inPlace := ["slices.overlaps[loop.example/wayboard/impl.Entry]"], unfollowed := true, recurses := true, apart := false }
def FnPutSameSaid : Prop := fnPutSameRow.holds Try.pinned (OpenSpec.ofChange fnPutSameSpec)

/-- ITS FALSE NEIGHBOUR: 'it returns false'. Refute it at one input. -/
def fnPutSameWrong : ChangeSpec := { name := "fnPutSame", fn := fun _ => fun
  | [d] => { results := [.lit (.bool false)], args := [d] }
  | _ => none }
def FnPutSameWrongFalsely : Prop := fnPutSameRow.holds Try.pinned (OpenSpec.ofChange fnPutSameWrong)

/-- 'laws.FnTableLess': WHATEVER THE INPUT: true; the input reads as it did. -/
def fnTableLessSpec : ChangeSpec := { name := "fnTableLess", fn := fun _ => fun
  | [d] => { results := [.lit (.bool true)], args := [d] }
  | _ => none }
def fnTableLessRow : OpenClaim := { program := "ytbhenfegklgkoaa", sum := "34d842754b4a19c348f3c6f93b8ecb16d91cf607a22dbdb4fe7f32b30e97098f", func := "loop.example/wayboard/laws.FnTableLess", spec := "fnTableLess", unfollowed := true, recurses := true, apart := false }
def FnTableLessSaid : Prop := fnTableLessRow.holds Try.pinned (OpenSpec.ofChange fnTableLessSpec)

/-- ITS FALSE NEIGHBOUR: 'it returns false'. Refute it at one input. -/
def fnTableLessWrong : ChangeSpec := { name := "fnTableLess", fn := fun _ => fun
  | [d] => { results := [.lit (.bool false)], args := [d] }
  | _ => none }
def FnTableLessWrongFalsely : Prop := fnTableLessRow.holds Try.pinned (OpenSpec.ofChange fnTableLessWrong)

/-- 'laws.FnPutOrder': WHATEVER THE INPUT: true; the input reads as it did. -/
def fnPutOrderSpec : ChangeSpec := { name := "fnPutOrder", fn := fun _ => fun
  | [d1, d2] => { results := [.lit (.bool true)], args := [d1, d2] }
  | _ => none }
def fnPutOrderRow : OpenClaim := { program := "ytbhenfegklgkoaa", sum := "34d842754b4a19c348f3c6f93b8ecb16d91cf607a22dbdb4fe7f32b30e97098f", func := "loop.example/wayboard/laws.FnPutOrder", spec := "fnPutOrder", inPlace := ["slices.overlaps[loop.example/wayboard/impl.Entry]"], unfollowed := true, recurses := true, apart := false }
def FnPutOrderSaid : Prop := fnPutOrderRow.holds Try.pinned (OpenSpec.ofChange fnPutOrderSpec)

/-- ITS FALSE NEIGHBOUR: 'it returns false'. Refute it at one input. -/
def fnPutOrderWrong : ChangeSpec := { name := "fnPutOrder", fn := fun _ => fun
  | [d1, d2] => { results := [.lit (.bool false)], args := [d1, d2] }
  | _ => none }
def FnPutOrderWrongFalsely : Prop := fnPutOrderRow.holds Try.pinned (OpenSpec.ofChange fnPutOrderWrong)

/-- 'laws.FnTablePut': WHATEVER THE INPUT: true; the input reads as it did. -/
def fnTablePutSpec : ChangeSpec := { name := "fnTablePut", fn := fun _ => fun
  | [d] => { results := [.lit (.bool true)], args := [d] }
  | _ => none }
def fnTablePutRow : OpenClaim := { program := "ytbhenfegklgkoaa", sum := "34d842754b4a19c348f3c6f93b8ecb16d91cf607a22dbdb4fe7f32b30e97098f", func := "loop.example/wayboard/laws.FnTablePut", spec := "fnTablePut", inPlace := ["slices.overlaps[loop.example/wayboard/impl.Entry]"], unfollowed := true, recurses := true, apart := false }
def FnTablePutSaid : Prop := fnTablePutRow.holds Try.pinned (OpenSpec.ofChange fnTablePutSpec)

/-- ITS FALSE NEIGHBOUR: 'it returns false'. Refute it at one input. -/
def fnTablePutWrong : ChangeSpec := { name := "fnTablePut", fn := fun _ => fun
  | [d] => { results := [.lit (.bool false)], args := [d] }
  | _ => none }
def FnTablePutWrongFalsely : Prop := fnTablePutRow.holds Try.pinned (OpenSpec.ofChange fnTablePutWrong)

/-- 'laws.FnTableDrop': WHATEVER THE INPUT: true; the input reads as it did. -/
def fnTableDropSpec : ChangeSpec := { name := "fnTableDrop", fn := fun _ => fun
  | [d] => { results := [.lit (.bool true)], args := [d] }
  | _ => none }
def fnTableDropRow : OpenClaim := { program := "ytbhenfegklgkoaa", sum := "34d842754b4a19c348f3c6f93b8ecb16d91cf607a22dbdb4fe7f32b30e97098f", func := "loop.example/wayboard/laws.FnTableDrop", spec := "fnTableDrop", inPlace := ["slices.overlaps[loop.example/wayboard/impl.Entry]"], unfollowed := true, recurses := true, apart := false }
def FnTableDropSaid : Prop := fnTableDropRow.holds Try.pinned (OpenSpec.ofChange fnTableDropSpec)

/-- ITS FALSE NEIGHBOUR: 'it returns false'. Refute it at one input. -/
def fnTableDropWrong : ChangeSpec := { name := "fnTableDrop", fn := fun _ => fun
  | [d] => { results := [.lit (.bool false)], args := [d] }
  | _ => none }
def FnTableDropWrongFalsely : Prop := fnTableDropRow.holds Try.pinned (OpenSpec.ofChange fnTableDropWrong)

/-- 'laws.FnFindAll': WHATEVER THE INPUT: true; the input reads as it did. -/
def fnFindAllSpec : ChangeSpec := { name := "fnFindAll", fn := fun _ => fun
  | [d] => { results := [.lit (.bool true)], args := [d] }
  | _ => none }
def fnFindAllRow : OpenClaim := { program := "ytbhenfegklgkoaa", sum := "34d842754b4a19c348f3c6f93b8ecb16d91cf607a22dbdb4fe7f32b30e97098f", func := "loop.example/wayboard/laws.FnFindAll", spec := "fnFindAll", inPlace := ["slices.overlaps[loop.example/wayboard/impl.Entry]"], unfollowed := true, recurses := true, apart := false }
def FnFindAllSaid : Prop := fnFindAllRow.holds Try.pinned (OpenSpec.ofChange fnFindAllSpec)

/-- ITS FALSE NEIGHBOUR: 'it returns false'. Refute it at one input. -/
def fnFindAllWrong : ChangeSpec := { name := "fnFindAll", fn := fun _ => fun
  | [d] => { results := [.lit (.bool false)], args := [d] }
  | _ => none }
def FnFindAllWrongFalsely : Prop := fnFindAllRow.holds Try.pinned (OpenSpec.ofChange fnFindAllWrong)

/-- 'laws.FnTableHalves': WHATEVER THE INPUT: true; the input reads as it did. -/
def fnTableHalvesSpec : ChangeSpec := { name := "fnTableHalves", fn := fun _ => fun
  | [d1, d2] => { results := [.lit (.bool true)], args := [d1, d2] }
  | _ => none }
def fnTableHalvesRow : OpenClaim := { program := "ytbhenfegklgkoaa", sum := "34d842754b4a19c348f3c6f93b8ecb16d91cf607a22dbdb4fe7f32b30e97098f", func := "loop.example/wayboard/laws.FnTableHalves", spec := "fnTableHalves", inPlace := ["slices.overlaps[loop.example/wayboard/impl.Entry]"], unfollowed := true, recurses := true, apart := false }
def FnTableHalvesSaid : Prop := fnTableHalvesRow.holds Try.pinned (OpenSpec.ofChange fnTableHalvesSpec)

/-- ITS FALSE NEIGHBOUR: 'it returns false'. Refute it at one input. -/
def fnTableHalvesWrong : ChangeSpec := { name := "fnTableHalves", fn := fun _ => fun
  | [d1, d2] => { results := [.lit (.bool false)], args := [d1, d2] }
  | _ => none }
def FnTableHalvesWrongFalsely : Prop := fnTableHalvesRow.holds Try.pinned (OpenSpec.ofChange fnTableHalvesWrong)

/-- 'laws.FnSplit': WHATEVER THE INPUT: true; the input reads as it did. -/
def fnSplitSpec : ChangeSpec := { name := "fnSplit", fn := fun _ => fun
  | [d1, d2] => { results := [.lit (.bool true)], args := [d1, d2] }
  | _ => none }
def fnSplitRow : OpenClaim := { program := "ytbhenfegklgkoaa", sum := "34d842754b4a19c348f3c6f93b8ecb16d91cf607a22dbdb4fe7f32b30e97098f", func := "loop.example/wayboard/laws.FnSplit", spec := "fnSplit", inPlace := ["slices.overlaps[loop.example/wayboard/impl.Entry]"], unfollowed := true, recurses := true, apart := false }
def FnSplitSaid : Prop := fnSplitRow.holds Try.pinned (OpenSpec.ofChange fnSplitSpec)

/-- ITS FALSE NEIGHBOUR: 'it returns false'. Refute it at one input. -/
def fnSplitWrong : ChangeSpec := { name := "fnSplit", fn := fun _ => fun
  | [d1, d2] => { results := [.lit (.bool false)], args := [d1, d2] }
  | _ => none }
def FnSplitWrongFalsely : Prop := fnSplitRow.holds Try.pinned (OpenSpec.ofChange fnSplitWrong)

/- THE SECOND FORM. 'bulk': how many values and letters a reading holds, each counted each time it is reached (what is shared counts as often as it is met; a slice's spare places count too). A statement '..UptoSaid' is the law's where the arguments, and the package variables that the reading takes, are together of bulk at most 1048576: NARROWER than '..Said'. Prove '..Said' where nothing that the law and all that it calls make is longer than what came in: it says more and counts as full. Else prove '..UptoSaid'. A law counts once. -/
mutual
def uptoBulk {H : Type} : DataW H → Nat
  | .lit (.string bytes) => bytes.length + 1
  | .lit _ => 1
  | .nil => 1
  | .ptr d => uptoBulk d + 1
  | .slice elems spare => uptoBulkAll elems + uptoBulkAll spare + 1
  | .agg parts => uptoBulkAll parts + 1
  | .iface _ d => uptoBulk d + 1
  | .map entries => uptoBulkEntries entries + 1
  | .held _ => 1
def uptoBulkAll {H : Type} : List (DataW H) → Nat
  | [] => 0
  | d :: r => uptoBulk d + uptoBulkAll r
def uptoBulkEntries {H : Type} : List (Lit × DataW H) → Nat
  | [] => 0
  | x :: r => uptoBulkEntry x + uptoBulkEntries r
def uptoBulkEntry {H : Type} : Lit × DataW H → Nat
  | (.string bytes, d) => bytes.length + uptoBulk d + 1
  | (_, d) => uptoBulk d + 1
 end
def uptoSmall : (H : Type) → List (DataW H) → Bool := fun _ ds => decide (uptoBulkAll ds ≤ 1048576)
def OpenSpec.upto (s : _root_.Go.ChangeSpec) : _root_.Go.OpenSpec := { _root_.Go.OpenSpec.ofChange s with cond := some uptoSmall }

/-- 'laws.FnTableForm', WHERE WHAT IT READS IS OF BULK AT MOST 1048576: true; the input reads as it did. -/
def fnTableFormUptoRow : OpenClaim := { program := "ytbhenfegklgkoaa", sum := "34d842754b4a19c348f3c6f93b8ecb16d91cf607a22dbdb4fe7f32b30e97098f", func := "loop.example/wayboard/laws.FnTableForm", spec := "fnTableForm", apart := false, narrowed := true }
def FnTableFormUptoSaid : Prop := fnTableFormUptoRow.holds Try.pinned (OpenSpec.upto fnTableFormSpec)

/-- 'laws.FnFind', WHERE WHAT IT READS IS OF BULK AT MOST 1048576: true; the input reads as it did. -/
def fnFindUptoRow : OpenClaim := { program := "ytbhenfegklgkoaa", sum := "34d842754b4a19c348f3c6f93b8ecb16d91cf607a22dbdb4fe7f32b30e97098f", func := "loop.example/wayboard/laws.FnFind", spec := "fnFind", apart := false, narrowed := true }
def FnFindUptoSaid : Prop := fnFindUptoRow.holds Try.pinned (OpenSpec.upto fnFindSpec)

/-- 'laws.FnFindRange', WHERE WHAT IT READS IS OF BULK AT MOST 1048576: true; the input reads as it did. -/
def fnFindRangeUptoRow : OpenClaim := { program := "ytbhenfegklgkoaa", sum := "34d842754b4a19c348f3c6f93b8ecb16d91cf607a22dbdb4fe7f32b30e97098f", func := "loop.example/wayboard/laws.FnFindRange", spec := "fnFindRange", apart := false, narrowed := true }
def FnFindRangeUptoSaid : Prop := fnFindRangeUptoRow.holds Try.pinned (OpenSpec.upto fnFindRangeSpec)

/-- 'laws.FnTableSame', WHERE WHAT IT READS IS OF BULK AT MOST 1048576: true; the input reads as it did. -/
def fnTableSameUptoRow : OpenClaim := { program := "ytbhenfegklgkoaa", sum := "34d842754b4a19c348f3c6f93b8ecb16d91cf607a22dbdb4fe7f32b30e97098f", func := "loop.example/wayboard/laws.FnTableSame", spec := "fnTableSame", apart := false, narrowed := true }
def FnTableSameUptoSaid : Prop := fnTableSameUptoRow.holds Try.pinned (OpenSpec.upto fnTableSameSpec)

/-- 'laws.FnPutSame', WHERE WHAT IT READS IS OF BULK AT MOST 1048576: true; the input reads as it did. -/
def fnPutSameUptoRow : OpenClaim := { program := "ytbhenfegklgkoaa", sum := "34d842754b4a19c348f3c6f93b8ecb16d91cf607a22dbdb4fe7f32b30e97098f", func := "loop.example/wayboard/laws.FnPutSame", spec := "fnPutSame", inPlace := ["slices.overlaps[loop.example/wayboard/impl.Entry]"], unfollowed := true, recurses := true, apart := false, narrowed := true }
def FnPutSameUptoSaid : Prop := fnPutSameUptoRow.holds Try.pinned (OpenSpec.upto fnPutSameSpec)

/-- 'laws.FnTableLess', WHERE WHAT IT READS IS OF BULK AT MOST 1048576: true; the input reads as it did. -/
def fnTableLessUptoRow : OpenClaim := { program := "ytbhenfegklgkoaa", sum := "34d842754b4a19c348f3c6f93b8ecb16d91cf607a22dbdb4fe7f32b30e97098f", func := "loop.example/wayboard/laws.FnTableLess", spec := "fnTableLess", unfollowed := true, recurses := true, apart := false, narrowed := true }
def FnTableLessUptoSaid : Prop := fnTableLessUptoRow.holds Try.pinned (OpenSpec.upto fnTableLessSpec)

/-- 'laws.FnPutOrder', WHERE WHAT IT READS IS OF BULK AT MOST 1048576: true; the input reads as it did. -/
def fnPutOrderUptoRow : OpenClaim := { program := "ytbhenfegklgkoaa", sum := "34d842754b4a19c348f3c6f93b8ecb16d91cf607a22dbdb4fe7f32b30e97098f", func := "loop.example/wayboard/laws.FnPutOrder", spec := "fnPutOrder", inPlace := ["slices.overlaps[loop.example/wayboard/impl.Entry]"], unfollowed := true, recurses := true, apart := false, narrowed := true }
def FnPutOrderUptoSaid : Prop := fnPutOrderUptoRow.holds Try.pinned (OpenSpec.upto fnPutOrderSpec)

/-- 'laws.FnTablePut', WHERE WHAT IT READS IS OF BULK AT MOST 1048576: true; the input reads as it did. -/
def fnTablePutUptoRow : OpenClaim := { program := "ytbhenfegklgkoaa", sum := "34d842754b4a19c348f3c6f93b8ecb16d91cf607a22dbdb4fe7f32b30e97098f", func := "loop.example/wayboard/laws.FnTablePut", spec := "fnTablePut", inPlace := ["slices.overlaps[loop.example/wayboard/impl.Entry]"], unfollowed := true, recurses := true, apart := false, narrowed := true }
def FnTablePutUptoSaid : Prop := fnTablePutUptoRow.holds Try.pinned (OpenSpec.upto fnTablePutSpec)

/-- 'laws.FnTableDrop', WHERE WHAT IT READS IS OF BULK AT MOST 1048576: true; the input reads as it did. -/
def fnTableDropUptoRow : OpenClaim := { program := "ytbhenfegklgkoaa", sum := "34d842754b4a19c348f3c6f93b8ecb16d91cf607a22dbdb4fe7f32b30e97098f", func := "loop.example/wayboard/laws.FnTableDrop", spec := "fnTableDrop", inPlace := ["slices.overlaps[loop.example/wayboard/impl.Entry]"], unfollowed := true, recurses := true, apart := false, narrowed := true }
def FnTableDropUptoSaid : Prop := fnTableDropUptoRow.holds Try.pinned (OpenSpec.upto fnTableDropSpec)

/-- 'laws.FnFindAll', WHERE WHAT IT READS IS OF BULK AT MOST 1048576: true; the input reads as it did. -/
def fnFindAllUptoRow : OpenClaim := { program := "ytbhenfegklgkoaa", sum := "34d842754b4a19c348f3c6f93b8ecb16d91cf607a22dbdb4fe7f32b30e97098f", func := "loop.example/wayboard/laws.FnFindAll", spec := "fnFindAll", inPlace := ["slices.overlaps[loop.example/wayboard/impl.Entry]"], unfollowed := true, recurses := true, apart := false, narrowed := true }
def FnFindAllUptoSaid : Prop := fnFindAllUptoRow.holds Try.pinned (OpenSpec.upto fnFindAllSpec)

/-- 'laws.FnTableHalves', WHERE WHAT IT READS IS OF BULK AT MOST 1048576: true; the input reads as it did. -/
def fnTableHalvesUptoRow : OpenClaim := { program := "ytbhenfegklgkoaa", sum := "34d842754b4a19c348f3c6f93b8ecb16d91cf607a22dbdb4fe7f32b30e97098f", func := "loop.example/wayboard/laws.FnTableHalves", spec := "fnTableHalves", inPlace := ["slices.overlaps[loop.example/wayboard/impl.Entry]"], unfollowed := true, recurses := true, apart := false, narrowed := true }
def FnTableHalvesUptoSaid : Prop := fnTableHalvesUptoRow.holds Try.pinned (OpenSpec.upto fnTableHalvesSpec)

/-- 'laws.FnSplit', WHERE WHAT IT READS IS OF BULK AT MOST 1048576: true; the input reads as it did. -/
def fnSplitUptoRow : OpenClaim := { program := "ytbhenfegklgkoaa", sum := "34d842754b4a19c348f3c6f93b8ecb16d91cf607a22dbdb4fe7f32b30e97098f", func := "loop.example/wayboard/laws.FnSplit", spec := "fnSplit", inPlace := ["slices.overlaps[loop.example/wayboard/impl.Entry]"], unfollowed := true, recurses := true, apart := false, narrowed := true }
def FnSplitUptoSaid : Prop := fnSplitUptoRow.holds Try.pinned (OpenSpec.upto fnSplitSpec)

end Rows
end Go.Proofs.Ytbhenfegklgkoaa
