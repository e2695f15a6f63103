/-
  NARROWER THAN 'FOR EVERY INPUT', by the rows' own cells (each row's printed sentence says how): FnClauseFits: ifaces, laid · FnPathForm: ifaces, laid · FnPathRest: ifaces, laid · FnPathTexts: ifaces, laid · FnRouteCmp: ifaces, laid · FnRouteForm: ifaces, laid · FnRouteThree: ifaces, laid.
  DERIVED. THE GIVEN ROWS OF THIS SEAT. 7 by the template 'for every input the law returns true; each argument reads behind the call as it read before'; 0 by the template 'total and deterministic' (their statements: YtgegmampnpgcaaaDoorTotals.lean).
  GIVEN WITH THE SEED: the statements are not yours to turn. If you find one false, say at which input.
  Laid BY PROGRAM, IN A SANDBOX (cutbox-rows.mjs): the forced cells as the released guide's own fill.sh prints them over the translation 7c840e3bdc4f527c… (all of the seat's roots in one cut). By AI agents, Wed Nov 11 2026. No macro, syntax, notation, axiom, sorry.
-/
import Derived.Test.YtgegmampnpgcaaaDoorChecked
import GoSem.Claim
import GoSem.ClaimJoined
import GoSem.ClaimMapViews
import Derived.JoinedTies
import Derived.KernelRfl
namespace Go.Proofs.YtgegmampnpgcaaaDoor
/- THE CELL 'sum', in the pinned program and in every row, IS THE sha256 OF THE DUMP (.gsa) THAT YtgegmampnpgcaaaDoorProg.lean LOADS. Nothing in Lean hashes anything: it is a label: what it is worth is what the hold of that sum in a sandbox is worth. -/
noncomputable def Tryd.pinned : Pinned := { name := "ytgegmampnpgcaaadoor", sum := "7c840e3bdc4f527c72c2b2cc0f006409982b90ae39748732dff77ac96e25f8f8", checked := Tryd.checked }
namespace Rows
def none {H : Type} : Left H := { results := [], args := [] }

/- WHAT THE LISTED PACKAGE-LEVEL VARIABLES READ AS WHEN THE CALL BEGINS. Each datum BY PROGRAM (the guide's laid-datum.mjs) off the statement by which the dump's own 'gosem.cut.vars' lays the variable. In a bare row this is a premise. The card (YtgegmampnpgcaaaDoorCards.lean) ties it to the program's text. -/
def laid_math_bits_deBruijn32tab {H : Type} : DataW H := .agg [.lit (.int .u8 0), .lit (.int .u8 1), .lit (.int .u8 28), .lit (.int .u8 2), .lit (.int .u8 29), .lit (.int .u8 14), .lit (.int .u8 24), .lit (.int .u8 3), .lit (.int .u8 30), .lit (.int .u8 22), .lit (.int .u8 20), .lit (.int .u8 15), .lit (.int .u8 25), .lit (.int .u8 17), .lit (.int .u8 4), .lit (.int .u8 8), .lit (.int .u8 31), .lit (.int .u8 27), .lit (.int .u8 13), .lit (.int .u8 23), .lit (.int .u8 21), .lit (.int .u8 19), .lit (.int .u8 16), .lit (.int .u8 7), .lit (.int .u8 26), .lit (.int .u8 12), .lit (.int .u8 18), .lit (.int .u8 6), .lit (.int .u8 11), .lit (.int .u8 5), .lit (.int .u8 10), .lit (.int .u8 9)]
def laid_math_bits_deBruijn64tab {H : Type} : DataW H := .agg [.lit (.int .u8 0), .lit (.int .u8 1), .lit (.int .u8 56), .lit (.int .u8 2), .lit (.int .u8 57), .lit (.int .u8 49), .lit (.int .u8 28), .lit (.int .u8 3), .lit (.int .u8 61), .lit (.int .u8 58), .lit (.int .u8 42), .lit (.int .u8 50), .lit (.int .u8 38), .lit (.int .u8 29), .lit (.int .u8 17), .lit (.int .u8 4), .lit (.int .u8 62), .lit (.int .u8 47), .lit (.int .u8 59), .lit (.int .u8 36), .lit (.int .u8 45), .lit (.int .u8 43), .lit (.int .u8 51), .lit (.int .u8 22), .lit (.int .u8 53), .lit (.int .u8 39), .lit (.int .u8 33), .lit (.int .u8 30), .lit (.int .u8 24), .lit (.int .u8 18), .lit (.int .u8 12), .lit (.int .u8 5), .lit (.int .u8 63), .lit (.int .u8 55), .lit (.int .u8 48), .lit (.int .u8 27), .lit (.int .u8 60), .lit (.int .u8 41), .lit (.int .u8 37), .lit (.int .u8 16), .lit (.int .u8 46), .lit (.int .u8 35), .lit (.int .u8 44), .lit (.int .u8 21), .lit (.int .u8 52), .lit (.int .u8 32), .lit (.int .u8 23), .lit (.int .u8 11), .lit (.int .u8 54), .lit (.int .u8 26), .lit (.int .u8 40), .lit (.int .u8 15), .lit (.int .u8 34), .lit (.int .u8 20), .lit (.int .u8 31), .lit (.int .u8 10), .lit (.int .u8 25), .lit (.int .u8 14), .lit (.int .u8 19), .lit (.int .u8 9), .lit (.int .u8 13), .lit (.int .u8 8), .lit (.int .u8 7), .lit (.int .u8 6)]
def laid_internal_strconv_uint64pow10 {H : Type} : DataW H := .agg [.lit (.int .u64 1), .lit (.int .u64 10), .lit (.int .u64 100), .lit (.int .u64 1000), .lit (.int .u64 10000), .lit (.int .u64 100000), .lit (.int .u64 1000000), .lit (.int .u64 10000000), .lit (.int .u64 100000000), .lit (.int .u64 1000000000), .lit (.int .u64 10000000000), .lit (.int .u64 100000000000), .lit (.int .u64 1000000000000), .lit (.int .u64 10000000000000), .lit (.int .u64 100000000000000), .lit (.int .u64 1000000000000000), .lit (.int .u64 10000000000000000), .lit (.int .u64 100000000000000000), .lit (.int .u64 1000000000000000000), .lit (.int .u64 10000000000000000000)]
def laid_loop_example_wayboard_impl_errPath {H : Type} : DataW H := .iface "*errors.errorString" (.ptr (.agg [.lit (.string [110, 111, 116, 32, 97, 32, 112, 97, 116, 104])]))

/-- 'laws.FnClauseFits': WHATEVER THE INPUT: true; the input reads as it did. -/
def fnClauseFitsSpec : ChangeSpec := { name := "fnClauseFits", vars := ["loop.example/wayboard/impl.errPath"], fn := fun _ => fun
  | [d, g1] => { results := [.lit (.bool true)], args := [d], vars := [g1] }
  | _ => none }
def fnClauseFitsRow : OpenClaim := { program := "ytgegmampnpgcaaadoor", sum := "7c840e3bdc4f527c72c2b2cc0f006409982b90ae39748732dff77ac96e25f8f8", func := "loop.example/wayboard/laws.FnClauseFits", spec := "fnClauseFits", inPlace := ["internal/reflectlite.TypeOf"], unfollowed := true, recurses := true, named := ["loop.example/wayboard/impl.errPath", "internal/strconv.uint64pow10", "math/bits.deBruijn32tab", "math/bits.deBruijn64tab"], ifaces := true, apart := false, laid := [("math/bits.deBruijn32tab", laid_math_bits_deBruijn32tab), ("math/bits.deBruijn64tab", laid_math_bits_deBruijn64tab), ("internal/strconv.uint64pow10", laid_internal_strconv_uint64pow10), ("loop.example/wayboard/impl.errPath", laid_loop_example_wayboard_impl_errPath)] }
def FnClauseFitsSaid : Prop := fnClauseFitsRow.holds Tryd.pinned (OpenSpec.ofChange fnClauseFitsSpec)

/-- ITS FALSE NEIGHBOUR: 'it returns false'. Refute it at one input. -/
def fnClauseFitsWrong : ChangeSpec := { name := "fnClauseFits", vars := ["loop.example/wayboard/impl.errPath"], fn := fun _ => fun
  | [d, g1] => { results := [.lit (.bool false)], args := [d], vars := [g1] }
  | _ => none }
def FnClauseFitsWrongFalsely : Prop := fnClauseFitsRow.holds Tryd.pinned (OpenSpec.ofChange fnClauseFitsWrong)

/-- 'laws.FnPathForm': WHATEVER THE INPUT: true; the input reads as it did. -/
def fnPathFormSpec : ChangeSpec := { name := "fnPathForm", vars := ["loop.example/wayboard/impl.errPath"], fn := fun _ => fun
  | [d1, d2, g1] => { results := [.lit (.bool true)], args := [d1, d2], vars := [g1] }
  | _ => none }
def fnPathFormRow : OpenClaim := { program := "ytgegmampnpgcaaadoor", sum := "7c840e3bdc4f527c72c2b2cc0f006409982b90ae39748732dff77ac96e25f8f8", func := "loop.example/wayboard/laws.FnPathForm", spec := "fnPathForm", inPlace := ["internal/reflectlite.TypeOf"], unfollowed := true, recurses := true, named := ["loop.example/wayboard/impl.errPath", "internal/strconv.uint64pow10", "math/bits.deBruijn32tab", "math/bits.deBruijn64tab"], ifaces := true, apart := false, laid := [("math/bits.deBruijn32tab", laid_math_bits_deBruijn32tab), ("math/bits.deBruijn64tab", laid_math_bits_deBruijn64tab), ("internal/strconv.uint64pow10", laid_internal_strconv_uint64pow10), ("loop.example/wayboard/impl.errPath", laid_loop_example_wayboard_impl_errPath)] }
def FnPathFormSaid : Prop := fnPathFormRow.holds Tryd.pinned (OpenSpec.ofChange fnPathFormSpec)

/-- ITS FALSE NEIGHBOUR: 'it returns false'. Refute it at one input. -/
def fnPathFormWrong : ChangeSpec := { name := "fnPathForm", vars := ["loop.example/wayboard/impl.errPath"], fn := fun _ => fun
  | [d1, d2, g1] => { results := [.lit (.bool false)], args := [d1, d2], vars := [g1] }
  | _ => none }
def FnPathFormWrongFalsely : Prop := fnPathFormRow.holds Tryd.pinned (OpenSpec.ofChange fnPathFormWrong)

/-- 'laws.FnPathRest': WHATEVER THE INPUT: true; the input reads as it did. -/
def fnPathRestSpec : ChangeSpec := { name := "fnPathRest", vars := ["loop.example/wayboard/impl.errPath"], fn := fun _ => fun
  | [d1, d2, g1] => { results := [.lit (.bool true)], args := [d1, d2], vars := [g1] }
  | _ => none }
def fnPathRestRow : OpenClaim := { program := "ytgegmampnpgcaaadoor", sum := "7c840e3bdc4f527c72c2b2cc0f006409982b90ae39748732dff77ac96e25f8f8", func := "loop.example/wayboard/laws.FnPathRest", spec := "fnPathRest", inPlace := ["internal/reflectlite.TypeOf", "internal/abi.NoEscape", "internal/bytealg.MakeNoZero"], unfollowed := true, recurses := true, named := ["loop.example/wayboard/impl.errPath", "internal/strconv.uint64pow10", "math/bits.deBruijn32tab", "math/bits.deBruijn64tab"], ifaces := true, apart := false, laid := [("math/bits.deBruijn32tab", laid_math_bits_deBruijn32tab), ("math/bits.deBruijn64tab", laid_math_bits_deBruijn64tab), ("internal/strconv.uint64pow10", laid_internal_strconv_uint64pow10), ("loop.example/wayboard/impl.errPath", laid_loop_example_wayboard_impl_errPath)] }
def FnPathRestSaid : Prop := fnPathRestRow.holds Tryd.pinned (OpenSpec.ofChange fnPathRestSpec)

/-- ITS FALSE NEIGHBOUR: 'it returns false'. Refute it at one input. -/
def fnPathRestWrong : ChangeSpec := { name := "fnPathRest", vars := ["loop.example/wayboard/impl.errPath"], fn := fun _ => fun
  | [d1, d2, g1] => { results := [.lit (.bool false)], args := [d1, d2], vars := [g1] }
  | _ => none }
def FnPathRestWrongFalsely : Prop := fnPathRestRow.holds Tryd.pinned (OpenSpec.ofChange fnPathRestWrong)

/-- 'laws.FnPathTexts': WHATEVER THE INPUT: true; the input reads as it did. -/
def fnPathTextsSpec : ChangeSpec := { name := "fnPathTexts", vars := ["loop.example/wayboard/impl.errPath"], fn := fun _ => fun
  | [d, g1] => { results := [.lit (.bool true)], args := [d], vars := [g1] }
  | _ => none }
def fnPathTextsRow : OpenClaim := { program := "ytgegmampnpgcaaadoor", sum := "7c840e3bdc4f527c72c2b2cc0f006409982b90ae39748732dff77ac96e25f8f8", func := "loop.example/wayboard/laws.FnPathTexts", spec := "fnPathTexts", inPlace := ["internal/reflectlite.TypeOf", "internal/abi.NoEscape", "internal/bytealg.MakeNoZero"], unfollowed := true, recurses := true, named := ["loop.example/wayboard/impl.errPath", "internal/strconv.uint64pow10", "math/bits.deBruijn32tab", "math/bits.deBruijn64tab"], ifaces := true, apart := false, laid := [("math/bits.deBruijn32tab", laid_math_bits_deBruijn32tab), ("math/bits.deBruijn64tab", laid_math_bits_deBruijn64tab), ("internal/strconv.uint64pow10", laid_internal_strconv_uint64pow10), ("loop.example/wayboard/impl.errPath", laid_loop_example_wayboard_impl_errPath)] }
def FnPathTextsSaid : Prop := fnPathTextsRow.holds Tryd.pinned (OpenSpec.ofChange fnPathTextsSpec)

/-- ITS FALSE NEIGHBOUR: 'it returns false'. Refute it at one input. -/
def fnPathTextsWrong : ChangeSpec := { name := "fnPathTexts", vars := ["loop.example/wayboard/impl.errPath"], fn := fun _ => fun
  | [d, g1] => { results := [.lit (.bool false)], args := [d], vars := [g1] }
  | _ => none }
def FnPathTextsWrongFalsely : Prop := fnPathTextsRow.holds Tryd.pinned (OpenSpec.ofChange fnPathTextsWrong)

/-- 'laws.FnRouteCmp': WHATEVER THE INPUT: true; the input reads as it did. -/
def fnRouteCmpSpec : ChangeSpec := { name := "fnRouteCmp", vars := ["loop.example/wayboard/impl.errPath"], fn := fun _ => fun
  | [d, g1] => { results := [.lit (.bool true)], args := [d], vars := [g1] }
  | _ => none }
def fnRouteCmpRow : OpenClaim := { program := "ytgegmampnpgcaaadoor", sum := "7c840e3bdc4f527c72c2b2cc0f006409982b90ae39748732dff77ac96e25f8f8", func := "loop.example/wayboard/laws.FnRouteCmp", spec := "fnRouteCmp", inPlace := ["internal/reflectlite.TypeOf"], unfollowed := true, recurses := true, named := ["loop.example/wayboard/impl.errPath", "internal/strconv.uint64pow10", "math/bits.deBruijn32tab", "math/bits.deBruijn64tab"], ifaces := true, apart := false, laid := [("math/bits.deBruijn32tab", laid_math_bits_deBruijn32tab), ("math/bits.deBruijn64tab", laid_math_bits_deBruijn64tab), ("internal/strconv.uint64pow10", laid_internal_strconv_uint64pow10), ("loop.example/wayboard/impl.errPath", laid_loop_example_wayboard_impl_errPath)] }
def FnRouteCmpSaid : Prop := fnRouteCmpRow.holds Tryd.pinned (OpenSpec.ofChange fnRouteCmpSpec)

/-- ITS FALSE NEIGHBOUR: 'it returns false'. Refute it at one input. -/
def fnRouteCmpWrong : ChangeSpec := { name := "fnRouteCmp", vars := ["loop.example/wayboard/impl.errPath"], fn := fun _ => fun
  | [d, g1] => { results := [.lit (.bool false)], args := [d], vars := [g1] }
  | _ => none }
def FnRouteCmpWrongFalsely : Prop := fnRouteCmpRow.holds Tryd.pinned (OpenSpec.ofChange fnRouteCmpWrong)

/-- 'laws.FnRouteForm': WHATEVER THE INPUT: true; the input reads as it did. -/
def fnRouteFormSpec : ChangeSpec := { name := "fnRouteForm", vars := ["loop.example/wayboard/impl.errPath"], fn := fun _ => fun
  | [d, g1] => { results := [.lit (.bool true)], args := [d], vars := [g1] }
  | _ => none }
def fnRouteFormRow : OpenClaim := { program := "ytgegmampnpgcaaadoor", sum := "7c840e3bdc4f527c72c2b2cc0f006409982b90ae39748732dff77ac96e25f8f8", func := "loop.example/wayboard/laws.FnRouteForm", spec := "fnRouteForm", inPlace := ["internal/reflectlite.TypeOf"], unfollowed := true, recurses := true, named := ["loop.example/wayboard/impl.errPath", "internal/strconv.uint64pow10", "math/bits.deBruijn32tab", "math/bits.deBruijn64tab"], ifaces := true, apart := false, laid := [("math/bits.deBruijn32tab", laid_math_bits_deBruijn32tab), ("math/bits.deBruijn64tab", laid_math_bits_deBruijn64tab), ("internal/strconv.uint64pow10", laid_internal_strconv_uint64pow10), ("loop.example/wayboard/impl.errPath", laid_loop_example_wayboard_impl_errPath)] }
def FnRouteFormSaid : Prop := fnRouteFormRow.holds Tryd.pinned (OpenSpec.ofChange fnRouteFormSpec)

/-- ITS FALSE NEIGHBOUR: 'it returns false'. Refute it at one input. -/
def fnRouteFormWrong : ChangeSpec := { name := "fnRouteForm", vars := ["loop.example/wayboard/impl.errPath"], fn := fun _ => fun
  | [d, g1] => { results := [.lit (.bool false)], args := [d], vars := [g1] }
  | _ => none }
def FnRouteFormWrongFalsely : Prop := fnRouteFormRow.holds Tryd.pinned (OpenSpec.ofChange fnRouteFormWrong)

/-- 'laws.FnRouteThree': WHATEVER THE INPUT: true; the input reads as it did. -/
def fnRouteThreeSpec : ChangeSpec := { name := "fnRouteThree", vars := ["loop.example/wayboard/impl.errPath"], fn := fun _ => fun
  | [d1, d2, g1] => { results := [.lit (.bool true)], args := [d1, d2], vars := [g1] }
  | _ => none }
def fnRouteThreeRow : OpenClaim := { program := "ytgegmampnpgcaaadoor", sum := "7c840e3bdc4f527c72c2b2cc0f006409982b90ae39748732dff77ac96e25f8f8", func := "loop.example/wayboard/laws.FnRouteThree", spec := "fnRouteThree", inPlace := ["internal/reflectlite.TypeOf"], unfollowed := true, recurses := true, named := ["loop.example/wayboard/impl.errPath", "internal/strconv.uint64pow10", "math/bits.deBruijn32tab", "math/bits.deBruijn64tab"], ifaces := true, apart := false, laid := [("math/bits.deBruijn32tab", laid_math_bits_deBruijn32tab), ("math/bits.deBruijn64tab", laid_math_bits_deBruijn64tab), ("internal/strconv.uint64pow10", laid_internal_strconv_uint64pow10), ("loop.example/wayboard/impl.errPath", laid_loop_example_wayboard_impl_errPath)] }
def FnRouteThreeSaid : Prop := fnRouteThreeRow.holds Tryd.pinned (OpenSpec.ofChange fnRouteThreeSpec)

/-- ITS FALSE NEIGHBOUR: 'it returns false'. Refute it at one input. -/
def fnRouteThreeWrong : ChangeSpec := { name := "fnRouteThree", vars := ["loop.example/wayboard/impl.errPath"], fn := fun _ => fun
  | [d1, d2, g1] => { results := [.lit (.bool false)], args := [d1, d2], vars := [g1] }
  | _ => none }
def FnRouteThreeWrongFalsely : Prop := fnRouteThreeRow.holds Tryd.pinned (OpenSpec.ofChange fnRouteThreeWrong)

/- THE SECOND FORM. 'bulk': how many values and letters a reading holds, each counted each time it is reached (what is shared counts as often as it is met; a slice's spare places count too). A statement '..UptoSaid' is the law's where the arguments, and the package variables that the reading takes, are together of bulk at most 1048576: NARROWER than '..Said'. Prove '..Said' where nothing that the law and all that it calls make is longer than what came in: it says more and counts as full. Else prove '..UptoSaid'. A law counts once. -/
mutual
def uptoBulk {H : Type} : DataW H → Nat
  | .lit (.string bytes) => bytes.length + 1
  | .lit _ => 1
  | .nil => 1
  | .ptr d => uptoBulk d + 1
  | .slice elems spare => uptoBulkAll elems + uptoBulkAll spare + 1
  | .agg parts => uptoBulkAll parts + 1
  | .iface _ d => uptoBulk d + 1
  | .map entries => uptoBulkEntries entries + 1
  | .held _ => 1
def uptoBulkAll {H : Type} : List (DataW H) → Nat
  | [] => 0
  | d :: r => uptoBulk d + uptoBulkAll r
def uptoBulkEntries {H : Type} : List (Lit × DataW H) → Nat
  | [] => 0
  | x :: r => uptoBulkEntry x + uptoBulkEntries r
def uptoBulkEntry {H : Type} : Lit × DataW H → Nat
  | (.string bytes, d) => bytes.length + uptoBulk d + 1
  | (_, d) => uptoBulk d + 1
 end
def uptoSmall : (H : Type) → List (DataW H) → Bool := fun _ ds => decide (uptoBulkAll ds ≤ 1048576)
def OpenSpec.upto (s : _root_.Go.ChangeSpec) : _root_.Go.OpenSpec := { _root_.Go.OpenSpec.ofChange s with cond := some uptoSmall }

/-- 'laws.FnClauseFits', WHERE WHAT IT READS IS OF BULK AT MOST 1048576: true; the input reads as it did. -/
def fnClauseFitsUptoRow : OpenClaim := { program := "ytgegmampnpgcaaadoor", sum := "7c840e3bdc4f527c72c2b2cc0f006409982b90ae39748732dff77ac96e25f8f8", func := "loop.example/wayboard/laws.FnClauseFits", spec := "fnClauseFits", inPlace := ["internal/reflectlite.TypeOf"], unfollowed := true, recurses := true, named := ["loop.example/wayboard/impl.errPath", "internal/strconv.uint64pow10", "math/bits.deBruijn32tab", "math/bits.deBruijn64tab"], ifaces := true, apart := false, laid := [("math/bits.deBruijn32tab", laid_math_bits_deBruijn32tab), ("math/bits.deBruijn64tab", laid_math_bits_deBruijn64tab), ("internal/strconv.uint64pow10", laid_internal_strconv_uint64pow10), ("loop.example/wayboard/impl.errPath", laid_loop_example_wayboard_impl_errPath)], narrowed := true }
def FnClauseFitsUptoSaid : Prop := fnClauseFitsUptoRow.holds Tryd.pinned (OpenSpec.upto fnClauseFitsSpec)

/-- 'laws.FnPathForm', WHERE WHAT IT READS IS OF BULK AT MOST 1048576: true; the input reads as it did. -/
def fnPathFormUptoRow : OpenClaim := { program := "ytgegmampnpgcaaadoor", sum := "7c840e3bdc4f527c72c2b2cc0f006409982b90ae39748732dff77ac96e25f8f8", func := "loop.example/wayboard/laws.FnPathForm", spec := "fnPathForm", inPlace := ["internal/reflectlite.TypeOf"], unfollowed := true, recurses := true, named := ["loop.example/wayboard/impl.errPath", "internal/strconv.uint64pow10", "math/bits.deBruijn32tab", "math/bits.deBruijn64tab"], ifaces := true, apart := false, laid := [("math/bits.deBruijn32tab", laid_math_bits_deBruijn32tab), ("math/bits.deBruijn64tab", laid_math_bits_deBruijn64tab), ("internal/strconv.uint64pow10", laid_internal_strconv_uint64pow10), ("loop.example/wayboard/impl.errPath", laid_loop_example_wayboard_impl_errPath)], narrowed := true }
def FnPathFormUptoSaid : Prop := fnPathFormUptoRow.holds Tryd.pinned (OpenSpec.upto fnPathFormSpec)

/-- 'laws.FnPathRest', WHERE WHAT IT READS IS OF BULK AT MOST 1048576: true; the input reads as it did. -/
def fnPathRestUptoRow : OpenClaim := { program := "ytgegmampnpgcaaadoor", sum := "7c840e3bdc4f527c72c2b2cc0f006409982b90ae39748732dff77ac96e25f8f8", func := "loop.example/wayboard/laws.FnPathRest", spec := "fnPathRest", inPlace := ["internal/reflectlite.TypeOf", "internal/abi.NoEscape", "internal/bytealg.MakeNoZero"], unfollowed := true, recurses := true, named := ["loop.example/wayboard/impl.errPath", "internal/strconv.uint64pow10", "math/bits.deBruijn32tab", "math/bits.deBruijn64tab"], ifaces := true, apart := false, laid := [("math/bits.deBruijn32tab", laid_math_bits_deBruijn32tab), ("math/bits.deBruijn64tab", laid_math_bits_deBruijn64tab), ("internal/strconv.uint64pow10", laid_internal_strconv_uint64pow10), ("loop.example/wayboard/impl.errPath", laid_loop_example_wayboard_impl_errPath)], narrowed := true }
def FnPathRestUptoSaid : Prop := fnPathRestUptoRow.holds Tryd.pinned (OpenSpec.upto fnPathRestSpec)

/-- 'laws.FnPathTexts', WHERE WHAT IT READS IS OF BULK AT MOST 1048576: true; the input reads as it did. -/
def fnPathTextsUptoRow : OpenClaim := { program := "ytgegmampnpgcaaadoor", sum := "7c840e3bdc4f527c72c2b2cc0f006409982b90ae39748732dff77ac96e25f8f8", func := "loop.example/wayboard/laws.FnPathTexts", spec := "fnPathTexts", inPlace := ["internal/reflectlite.TypeOf", "internal/abi.NoEscape", "internal/bytealg.MakeNoZero"], unfollowed := true, recurses := true, named := ["loop.example/wayboard/impl.errPath", "internal/strconv.uint64pow10", "math/bits.deBruijn32tab", "math/bits.deBruijn64tab"], ifaces := true, apart := false, laid := [("math/bits.deBruijn32tab", laid_math_bits_deBruijn32tab), ("math/bits.deBruijn64tab", laid_math_bits_deBruijn64tab), ("internal/strconv.uint64pow10", laid_internal_strconv_uint64pow10), ("loop.example/wayboard/impl.errPath", laid_loop_example_wayboard_impl_errPath)], narrowed := true }
def FnPathTextsUptoSaid : Prop := fnPathTextsUptoRow.holds Tryd.pinned (OpenSpec.upto fnPathTextsSpec)

/-- 'laws.FnRouteCmp', WHERE WHAT IT READS IS OF BULK AT MOST 1048576: true; the input reads as it did. -/
def fnRouteCmpUptoRow : OpenClaim := { program := "ytgegmampnpgcaaadoor", sum := "7c840e3bdc4f527c72c2b2cc0f006409982b90ae39748732dff77ac96e25f8f8", func := "loop.example/wayboard/laws.FnRouteCmp", spec := "fnRouteCmp", inPlace := ["internal/reflectlite.TypeOf"], unfollowed := true, recurses := true, named := ["loop.example/wayboard/impl.errPath", "internal/strconv.uint64pow10", "math/bits.deBruijn32tab", "math/bits.deBruijn64tab"], ifaces := true, apart := false, laid := [("math/bits.deBruijn32tab", laid_math_bits_deBruijn32tab), ("math/bits.deBruijn64tab", laid_math_bits_deBruijn64tab), ("internal/strconv.uint64pow10", laid_internal_strconv_uint64pow10), ("loop.example/wayboard/impl.errPath", laid_loop_example_wayboard_impl_errPath)], narrowed := true }
def FnRouteCmpUptoSaid : Prop := fnRouteCmpUptoRow.holds Tryd.pinned (OpenSpec.upto fnRouteCmpSpec)

/-- 'laws.FnRouteForm', WHERE WHAT IT READS IS OF BULK AT MOST 1048576: true; the input reads as it did. -/
def fnRouteFormUptoRow : OpenClaim := { program := "ytgegmampnpgcaaadoor", sum := "7c840e3bdc4f527c72c2b2cc0f006409982b90ae39748732dff77ac96e25f8f8", func := "loop.example/wayboard/laws.FnRouteForm", spec := "fnRouteForm", inPlace := ["internal/reflectlite.TypeOf"], unfollowed := true, recurses := true, named := ["loop.example/wayboard/impl.errPath", "internal/strconv.uint64pow10", "math/bits.deBruijn32tab", "math/bits.deBruijn64tab"], ifaces := true, apart := false, laid := [("math/bits.deBruijn32tab", laid_math_bits_deBruijn32tab), ("math/bits.deBruijn64tab", laid_math_bits_deBruijn64tab), ("internal/strconv.uint64pow10", laid_internal_strconv_uint64pow10), ("loop.example/wayboard/impl.errPath", laid_loop_example_wayboard_impl_errPath)], narrowed := true }
def FnRouteFormUptoSaid : Prop := fnRouteFormUptoRow.holds Tryd.pinned (OpenSpec.upto fnRouteFormSpec)

/-- 'laws.FnRouteThree', WHERE WHAT IT READS IS OF BULK AT MOST 1048576: true; the input reads as it did. -/
def fnRouteThreeUptoRow : OpenClaim := { program := "ytgegmampnpgcaaadoor", sum := "7c840e3bdc4f527c72c2b2cc0f006409982b90ae39748732dff77ac96e25f8f8", func := "loop.example/wayboard/laws.FnRouteThree", spec := "fnRouteThree", inPlace := ["internal/reflectlite.TypeOf"], unfollowed := true, recurses := true, named := ["loop.example/wayboard/impl.errPath", "internal/strconv.uint64pow10", "math/bits.deBruijn32tab", "math/bits.deBruijn64tab"], ifaces := true, apart := false, laid := [("math/bits.deBruijn32tab", laid_math_bits_deBruijn32tab), ("math/bits.deBruijn64tab", laid_math_bits_deBruijn64tab), ("internal/strconv.uint64pow10", laid_internal_strconv_uint64pow10), ("loop.example/wayboard/impl.errPath", laid_loop_example_wayboard_impl_errPath)], narrowed := true }
def FnRouteThreeUptoSaid : Prop := fnRouteThreeUptoRow.holds Tryd.pinned (OpenSpec.upto fnRouteThreeSpec)

end Rows
end Go.Proofs.YtgegmampnpgcaaaDoor
