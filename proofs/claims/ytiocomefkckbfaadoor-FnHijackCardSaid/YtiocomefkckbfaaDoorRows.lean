/-
  NARROWER THAN 'FOR EVERY INPUT', by the rows' own cells (each row's printed sentence says how): FnSealHas: laid · FnSealMake: ifaces, laid · FnShorten: ifaces, laid · FnSealRange: ifaces, laid · FnHijack: ifaces, laid · FnSealLacks: ifaces, laid · FnSealOk: ifaces, laid · FnSealMore: ifaces, laid.
  DERIVED. THE GIVEN ROWS OF THIS SEAT. 8 by the template 'for every input the law returns true; each argument reads behind the call as it read before'; 0 by the template 'total and deterministic' (their statements: YtiocomefkckbfaaDoorTotals.lean).
  GIVEN WITH THE SEED: the statements are not yours to turn. If you find one false, say at which input.
  Laid BY PROGRAM, IN A SANDBOX (cutbox-rows.mjs): the forced cells as the released guide's own fill.sh prints them over the translation 3802579e388919c3… (all of the seat's roots in one cut). By AI agents, Wed Nov 11 2026. No macro, syntax, notation, axiom, sorry.
-/
import Derived.Test.YtiocomefkckbfaaDoorChecked
import GoSem.Claim
import GoSem.ClaimJoined
import GoSem.ClaimMapViews
import Derived.JoinedTies
import Derived.KernelRfl
namespace Go.Proofs.YtiocomefkckbfaaDoor
/- THE CELL 'sum', in the pinned program and in every row, IS THE sha256 OF THE DUMP (.gsa) THAT YtiocomefkckbfaaDoorProg.lean LOADS. Nothing in Lean hashes anything: it is a label: what it is worth is what the hold of that sum in a sandbox is worth. -/
noncomputable def Tryd.pinned : Pinned := { name := "ytiocomefkckbfaadoor", sum := "3802579e388919c3a5a352f9f08ae2c4c5d28b45318eeebdbcb9ff59cb3a94b4", checked := Tryd.checked }
namespace Rows
def none {H : Type} : Left H := { results := [], args := [] }

/- WHAT THE LISTED PACKAGE-LEVEL VARIABLES READ AS WHEN THE CALL BEGINS. Each datum BY PROGRAM (the guide's laid-datum.mjs) off the statement by which the dump's own 'gosem.cut.vars' lays the variable. In a bare row this is a premise. The card (YtiocomefkckbfaaDoorCards.lean) ties it to the program's text. -/
def laid_math_bits_deBruijn32tab {H : Type} : DataW H := .agg [.lit (.int .u8 0), .lit (.int .u8 1), .lit (.int .u8 28), .lit (.int .u8 2), .lit (.int .u8 29), .lit (.int .u8 14), .lit (.int .u8 24), .lit (.int .u8 3), .lit (.int .u8 30), .lit (.int .u8 22), .lit (.int .u8 20), .lit (.int .u8 15), .lit (.int .u8 25), .lit (.int .u8 17), .lit (.int .u8 4), .lit (.int .u8 8), .lit (.int .u8 31), .lit (.int .u8 27), .lit (.int .u8 13), .lit (.int .u8 23), .lit (.int .u8 21), .lit (.int .u8 19), .lit (.int .u8 16), .lit (.int .u8 7), .lit (.int .u8 26), .lit (.int .u8 12), .lit (.int .u8 18), .lit (.int .u8 6), .lit (.int .u8 11), .lit (.int .u8 5), .lit (.int .u8 10), .lit (.int .u8 9)]
def laid_math_bits_deBruijn64tab {H : Type} : DataW H := .agg [.lit (.int .u8 0), .lit (.int .u8 1), .lit (.int .u8 56), .lit (.int .u8 2), .lit (.int .u8 57), .lit (.int .u8 49), .lit (.int .u8 28), .lit (.int .u8 3), .lit (.int .u8 61), .lit (.int .u8 58), .lit (.int .u8 42), .lit (.int .u8 50), .lit (.int .u8 38), .lit (.int .u8 29), .lit (.int .u8 17), .lit (.int .u8 4), .lit (.int .u8 62), .lit (.int .u8 47), .lit (.int .u8 59), .lit (.int .u8 36), .lit (.int .u8 45), .lit (.int .u8 43), .lit (.int .u8 51), .lit (.int .u8 22), .lit (.int .u8 53), .lit (.int .u8 39), .lit (.int .u8 33), .lit (.int .u8 30), .lit (.int .u8 24), .lit (.int .u8 18), .lit (.int .u8 12), .lit (.int .u8 5), .lit (.int .u8 63), .lit (.int .u8 55), .lit (.int .u8 48), .lit (.int .u8 27), .lit (.int .u8 60), .lit (.int .u8 41), .lit (.int .u8 37), .lit (.int .u8 16), .lit (.int .u8 46), .lit (.int .u8 35), .lit (.int .u8 44), .lit (.int .u8 21), .lit (.int .u8 52), .lit (.int .u8 32), .lit (.int .u8 23), .lit (.int .u8 11), .lit (.int .u8 54), .lit (.int .u8 26), .lit (.int .u8 40), .lit (.int .u8 15), .lit (.int .u8 34), .lit (.int .u8 20), .lit (.int .u8 31), .lit (.int .u8 10), .lit (.int .u8 25), .lit (.int .u8 14), .lit (.int .u8 19), .lit (.int .u8 9), .lit (.int .u8 13), .lit (.int .u8 8), .lit (.int .u8 7), .lit (.int .u8 6)]
def laid_internal_strconv_uint64pow10 {H : Type} : DataW H := .agg [.lit (.int .u64 1), .lit (.int .u64 10), .lit (.int .u64 100), .lit (.int .u64 1000), .lit (.int .u64 10000), .lit (.int .u64 100000), .lit (.int .u64 1000000), .lit (.int .u64 10000000), .lit (.int .u64 100000000), .lit (.int .u64 1000000000), .lit (.int .u64 10000000000), .lit (.int .u64 100000000000), .lit (.int .u64 1000000000000), .lit (.int .u64 10000000000000), .lit (.int .u64 100000000000000), .lit (.int .u64 1000000000000000), .lit (.int .u64 10000000000000000), .lit (.int .u64 100000000000000000), .lit (.int .u64 1000000000000000000), .lit (.int .u64 10000000000000000000)]
def laid_loop_example_wayboard_impl_errPath {H : Type} : DataW H := .iface "*errors.errorString" (.ptr (.agg [.lit (.string [110, 111, 116, 32, 97, 32, 112, 97, 116, 104])]))

/-- 'laws.FnSealHas': WHATEVER THE INPUT: true; the input reads as it did. -/
def fnSealHasSpec : ChangeSpec := { name := "fnSealHas", fn := fun _ => fun
  | [d] => { results := [.lit (.bool true)], args := [d] }
  | _ => none }
def fnSealHasRow : OpenClaim := { program := "ytiocomefkckbfaadoor", sum := "3802579e388919c3a5a352f9f08ae2c4c5d28b45318eeebdbcb9ff59cb3a94b4", func := "loop.example/wayboard/laws.FnSealHas", spec := "fnSealHas", named := ["internal/strconv.uint64pow10", "math/bits.deBruijn32tab", "math/bits.deBruijn64tab"], plainKeys := false, apart := false, laid := [("math/bits.deBruijn32tab", laid_math_bits_deBruijn32tab), ("math/bits.deBruijn64tab", laid_math_bits_deBruijn64tab), ("internal/strconv.uint64pow10", laid_internal_strconv_uint64pow10)] }
def FnSealHasSaid : Prop := fnSealHasRow.holds Tryd.pinned (OpenSpec.ofChange fnSealHasSpec)

/-- ITS FALSE NEIGHBOUR: 'it returns false'. Refute it at one input. -/
def fnSealHasWrong : ChangeSpec := { name := "fnSealHas", fn := fun _ => fun
  | [d] => { results := [.lit (.bool false)], args := [d] }
  | _ => none }
def FnSealHasWrongFalsely : Prop := fnSealHasRow.holds Tryd.pinned (OpenSpec.ofChange fnSealHasWrong)

/-- 'laws.FnSealMake': WHATEVER THE INPUT: true; the input reads as it did. -/
def fnSealMakeSpec : ChangeSpec := { name := "fnSealMake", vars := ["loop.example/wayboard/impl.errPath"], fn := fun _ => fun
  | [d, g1] => { results := [.lit (.bool true)], args := [d], vars := [g1] }
  | _ => none }
def fnSealMakeRow : OpenClaim := { program := "ytiocomefkckbfaadoor", sum := "3802579e388919c3a5a352f9f08ae2c4c5d28b45318eeebdbcb9ff59cb3a94b4", func := "loop.example/wayboard/laws.FnSealMake", spec := "fnSealMake", inPlace := ["internal/reflectlite.TypeOf"], unfollowed := true, recurses := true, named := ["loop.example/wayboard/impl.errPath", "internal/strconv.uint64pow10", "math/bits.deBruijn32tab", "math/bits.deBruijn64tab"], ifaces := true, plainKeys := false, apart := false, laid := [("math/bits.deBruijn32tab", laid_math_bits_deBruijn32tab), ("math/bits.deBruijn64tab", laid_math_bits_deBruijn64tab), ("internal/strconv.uint64pow10", laid_internal_strconv_uint64pow10), ("loop.example/wayboard/impl.errPath", laid_loop_example_wayboard_impl_errPath)] }
def FnSealMakeSaid : Prop := fnSealMakeRow.holds Tryd.pinned (OpenSpec.ofChange fnSealMakeSpec)

/-- ITS FALSE NEIGHBOUR: 'it returns false'. Refute it at one input. -/
def fnSealMakeWrong : ChangeSpec := { name := "fnSealMake", vars := ["loop.example/wayboard/impl.errPath"], fn := fun _ => fun
  | [d, g1] => { results := [.lit (.bool false)], args := [d], vars := [g1] }
  | _ => none }
def FnSealMakeWrongFalsely : Prop := fnSealMakeRow.holds Tryd.pinned (OpenSpec.ofChange fnSealMakeWrong)

/-- 'laws.FnShorten': WHATEVER THE INPUT: true; the input reads as it did. -/
def fnShortenSpec : ChangeSpec := { name := "fnShorten", vars := ["loop.example/wayboard/impl.errPath"], fn := fun _ => fun
  | [d1, d2, g1] => { results := [.lit (.bool true)], args := [d1, d2], vars := [g1] }
  | _ => none }
def fnShortenRow : OpenClaim := { program := "ytiocomefkckbfaadoor", sum := "3802579e388919c3a5a352f9f08ae2c4c5d28b45318eeebdbcb9ff59cb3a94b4", func := "loop.example/wayboard/laws.FnShorten", spec := "fnShorten", inPlace := ["internal/reflectlite.TypeOf"], unfollowed := true, recurses := true, named := ["loop.example/wayboard/impl.errPath", "internal/strconv.uint64pow10", "math/bits.deBruijn32tab", "math/bits.deBruijn64tab"], ifaces := true, plainKeys := false, apart := false, laid := [("math/bits.deBruijn32tab", laid_math_bits_deBruijn32tab), ("math/bits.deBruijn64tab", laid_math_bits_deBruijn64tab), ("internal/strconv.uint64pow10", laid_internal_strconv_uint64pow10), ("loop.example/wayboard/impl.errPath", laid_loop_example_wayboard_impl_errPath)] }
def FnShortenSaid : Prop := fnShortenRow.holds Tryd.pinned (OpenSpec.ofChange fnShortenSpec)

/-- ITS FALSE NEIGHBOUR: 'it returns false'. Refute it at one input. -/
def fnShortenWrong : ChangeSpec := { name := "fnShorten", vars := ["loop.example/wayboard/impl.errPath"], fn := fun _ => fun
  | [d1, d2, g1] => { results := [.lit (.bool false)], args := [d1, d2], vars := [g1] }
  | _ => none }
def FnShortenWrongFalsely : Prop := fnShortenRow.holds Tryd.pinned (OpenSpec.ofChange fnShortenWrong)

/-- 'laws.FnSealRange': WHATEVER THE INPUT: true; the input reads as it did. -/
def fnSealRangeSpec : ChangeSpec := { name := "fnSealRange", vars := ["loop.example/wayboard/impl.errPath"], fn := fun _ => fun
  | [d, g1] => { results := [.lit (.bool true)], args := [d], vars := [g1] }
  | _ => none }
def fnSealRangeRow : OpenClaim := { program := "ytiocomefkckbfaadoor", sum := "3802579e388919c3a5a352f9f08ae2c4c5d28b45318eeebdbcb9ff59cb3a94b4", func := "loop.example/wayboard/laws.FnSealRange", spec := "fnSealRange", inPlace := ["internal/reflectlite.TypeOf"], unfollowed := true, recurses := true, named := ["loop.example/wayboard/impl.errPath", "internal/strconv.uint64pow10", "math/bits.deBruijn32tab", "math/bits.deBruijn64tab"], ifaces := true, plainKeys := false, apart := false, laid := [("math/bits.deBruijn32tab", laid_math_bits_deBruijn32tab), ("math/bits.deBruijn64tab", laid_math_bits_deBruijn64tab), ("internal/strconv.uint64pow10", laid_internal_strconv_uint64pow10), ("loop.example/wayboard/impl.errPath", laid_loop_example_wayboard_impl_errPath)] }
def FnSealRangeSaid : Prop := fnSealRangeRow.holds Tryd.pinned (OpenSpec.ofChange fnSealRangeSpec)

/-- ITS FALSE NEIGHBOUR: 'it returns false'. Refute it at one input. -/
def fnSealRangeWrong : ChangeSpec := { name := "fnSealRange", vars := ["loop.example/wayboard/impl.errPath"], fn := fun _ => fun
  | [d, g1] => { results := [.lit (.bool false)], args := [d], vars := [g1] }
  | _ => none }
def FnSealRangeWrongFalsely : Prop := fnSealRangeRow.holds Tryd.pinned (OpenSpec.ofChange fnSealRangeWrong)

/-- 'laws.FnHijack': WHATEVER THE INPUT: true; the input reads as it did. -/
def fnHijackSpec : ChangeSpec := { name := "fnHijack", vars := ["loop.example/wayboard/impl.errPath"], fn := fun _ => fun
  | [d1, d2, g1] => { results := [.lit (.bool true)], args := [d1, d2], vars := [g1] }
  | _ => none }
def fnHijackRow : OpenClaim := { program := "ytiocomefkckbfaadoor", sum := "3802579e388919c3a5a352f9f08ae2c4c5d28b45318eeebdbcb9ff59cb3a94b4", func := "loop.example/wayboard/laws.FnHijack", spec := "fnHijack", inPlace := ["internal/reflectlite.TypeOf"], unfollowed := true, recurses := true, named := ["loop.example/wayboard/impl.errPath", "internal/strconv.uint64pow10", "math/bits.deBruijn32tab", "math/bits.deBruijn64tab"], ifaces := true, plainKeys := false, apart := false, laid := [("math/bits.deBruijn32tab", laid_math_bits_deBruijn32tab), ("math/bits.deBruijn64tab", laid_math_bits_deBruijn64tab), ("internal/strconv.uint64pow10", laid_internal_strconv_uint64pow10), ("loop.example/wayboard/impl.errPath", laid_loop_example_wayboard_impl_errPath)] }
def FnHijackSaid : Prop := fnHijackRow.holds Tryd.pinned (OpenSpec.ofChange fnHijackSpec)

/-- ITS FALSE NEIGHBOUR: 'it returns false'. Refute it at one input. -/
def fnHijackWrong : ChangeSpec := { name := "fnHijack", vars := ["loop.example/wayboard/impl.errPath"], fn := fun _ => fun
  | [d1, d2, g1] => { results := [.lit (.bool false)], args := [d1, d2], vars := [g1] }
  | _ => none }
def FnHijackWrongFalsely : Prop := fnHijackRow.holds Tryd.pinned (OpenSpec.ofChange fnHijackWrong)

/-- 'laws.FnSealLacks': WHATEVER THE INPUT: true; the input reads as it did. -/
def fnSealLacksSpec : ChangeSpec := { name := "fnSealLacks", vars := ["loop.example/wayboard/impl.errPath"], fn := fun _ => fun
  | [d, g1] => { results := [.lit (.bool true)], args := [d], vars := [g1] }
  | _ => none }
def fnSealLacksRow : OpenClaim := { program := "ytiocomefkckbfaadoor", sum := "3802579e388919c3a5a352f9f08ae2c4c5d28b45318eeebdbcb9ff59cb3a94b4", func := "loop.example/wayboard/laws.FnSealLacks", spec := "fnSealLacks", inPlace := ["internal/reflectlite.TypeOf"], unfollowed := true, recurses := true, named := ["loop.example/wayboard/impl.errPath", "internal/strconv.uint64pow10", "math/bits.deBruijn32tab", "math/bits.deBruijn64tab"], ifaces := true, plainKeys := false, apart := false, laid := [("math/bits.deBruijn32tab", laid_math_bits_deBruijn32tab), ("math/bits.deBruijn64tab", laid_math_bits_deBruijn64tab), ("internal/strconv.uint64pow10", laid_internal_strconv_uint64pow10), ("loop.example/wayboard/impl.errPath", laid_loop_example_wayboard_impl_errPath)] }
def FnSealLacksSaid : Prop := fnSealLacksRow.holds Tryd.pinned (OpenSpec.ofChange fnSealLacksSpec)

/-- ITS FALSE NEIGHBOUR: 'it returns false'. Refute it at one input. -/
def fnSealLacksWrong : ChangeSpec := { name := "fnSealLacks", vars := ["loop.example/wayboard/impl.errPath"], fn := fun _ => fun
  | [d, g1] => { results := [.lit (.bool false)], args := [d], vars := [g1] }
  | _ => none }
def FnSealLacksWrongFalsely : Prop := fnSealLacksRow.holds Tryd.pinned (OpenSpec.ofChange fnSealLacksWrong)

/-- 'laws.FnSealOk': WHATEVER THE INPUT: true; the input reads as it did. -/
def fnSealOkSpec : ChangeSpec := { name := "fnSealOk", vars := ["loop.example/wayboard/impl.errPath"], fn := fun _ => fun
  | [d1, d2, g1] => { results := [.lit (.bool true)], args := [d1, d2], vars := [g1] }
  | _ => none }
def fnSealOkRow : OpenClaim := { program := "ytiocomefkckbfaadoor", sum := "3802579e388919c3a5a352f9f08ae2c4c5d28b45318eeebdbcb9ff59cb3a94b4", func := "loop.example/wayboard/laws.FnSealOk", spec := "fnSealOk", inPlace := ["internal/reflectlite.TypeOf"], unfollowed := true, recurses := true, named := ["loop.example/wayboard/impl.errPath", "internal/strconv.uint64pow10", "math/bits.deBruijn32tab", "math/bits.deBruijn64tab"], ifaces := true, plainKeys := false, apart := false, laid := [("math/bits.deBruijn32tab", laid_math_bits_deBruijn32tab), ("math/bits.deBruijn64tab", laid_math_bits_deBruijn64tab), ("internal/strconv.uint64pow10", laid_internal_strconv_uint64pow10), ("loop.example/wayboard/impl.errPath", laid_loop_example_wayboard_impl_errPath)] }
def FnSealOkSaid : Prop := fnSealOkRow.holds Tryd.pinned (OpenSpec.ofChange fnSealOkSpec)

/-- ITS FALSE NEIGHBOUR: 'it returns false'. Refute it at one input. -/
def fnSealOkWrong : ChangeSpec := { name := "fnSealOk", vars := ["loop.example/wayboard/impl.errPath"], fn := fun _ => fun
  | [d1, d2, g1] => { results := [.lit (.bool false)], args := [d1, d2], vars := [g1] }
  | _ => none }
def FnSealOkWrongFalsely : Prop := fnSealOkRow.holds Tryd.pinned (OpenSpec.ofChange fnSealOkWrong)

/-- 'laws.FnSealMore': WHATEVER THE INPUT: true; the input reads as it did. -/
def fnSealMoreSpec : ChangeSpec := { name := "fnSealMore", vars := ["loop.example/wayboard/impl.errPath"], fn := fun _ => fun
  | [d1, d2, g1] => { results := [.lit (.bool true)], args := [d1, d2], vars := [g1] }
  | _ => none }
def fnSealMoreRow : OpenClaim := { program := "ytiocomefkckbfaadoor", sum := "3802579e388919c3a5a352f9f08ae2c4c5d28b45318eeebdbcb9ff59cb3a94b4", func := "loop.example/wayboard/laws.FnSealMore", spec := "fnSealMore", inPlace := ["internal/reflectlite.TypeOf"], unfollowed := true, recurses := true, named := ["loop.example/wayboard/impl.errPath", "internal/strconv.uint64pow10", "math/bits.deBruijn32tab", "math/bits.deBruijn64tab"], ifaces := true, plainKeys := false, apart := false, laid := [("math/bits.deBruijn32tab", laid_math_bits_deBruijn32tab), ("math/bits.deBruijn64tab", laid_math_bits_deBruijn64tab), ("internal/strconv.uint64pow10", laid_internal_strconv_uint64pow10), ("loop.example/wayboard/impl.errPath", laid_loop_example_wayboard_impl_errPath)] }
def FnSealMoreSaid : Prop := fnSealMoreRow.holds Tryd.pinned (OpenSpec.ofChange fnSealMoreSpec)

/-- ITS FALSE NEIGHBOUR: 'it returns false'. Refute it at one input. -/
def fnSealMoreWrong : ChangeSpec := { name := "fnSealMore", vars := ["loop.example/wayboard/impl.errPath"], fn := fun _ => fun
  | [d1, d2, g1] => { results := [.lit (.bool false)], args := [d1, d2], vars := [g1] }
  | _ => none }
def FnSealMoreWrongFalsely : Prop := fnSealMoreRow.holds Tryd.pinned (OpenSpec.ofChange fnSealMoreWrong)

/- THE SECOND FORM. 'bulk': how many values and letters a reading holds, each counted each time it is reached (what is shared counts as often as it is met; a slice's spare places count too). A statement '..UptoSaid' is the law's where the arguments, and the package variables that the reading takes, are together of bulk at most 1048576: NARROWER than '..Said'. Prove '..Said' where nothing that the law and all that it calls make is longer than what came in: it says more and counts as full. Else prove '..UptoSaid'. A law counts once. -/
mutual
def uptoBulk {H : Type} : DataW H → Nat
  | .lit (.string bytes) => bytes.length + 1
  | .lit _ => 1
  | .nil => 1
  | .ptr d => uptoBulk d + 1
  | .slice elems spare => uptoBulkAll elems + uptoBulkAll spare + 1
  | .agg parts => uptoBulkAll parts + 1
  | .iface _ d => uptoBulk d + 1
  | .map entries => uptoBulkEntries entries + 1
  | .held _ => 1
def uptoBulkAll {H : Type} : List (DataW H) → Nat
  | [] => 0
  | d :: r => uptoBulk d + uptoBulkAll r
def uptoBulkEntries {H : Type} : List (Lit × DataW H) → Nat
  | [] => 0
  | x :: r => uptoBulkEntry x + uptoBulkEntries r
def uptoBulkEntry {H : Type} : Lit × DataW H → Nat
  | (.string bytes, d) => bytes.length + uptoBulk d + 1
  | (_, d) => uptoBulk d + 1
 end
def uptoSmall : (H : Type) → List (DataW H) → Bool := fun _ ds => decide (uptoBulkAll ds ≤ 1048576)
def OpenSpec.upto (s : _root_.Go.ChangeSpec) : _root_.Go.OpenSpec := { _root_.Go.OpenSpec.ofChange s with cond := some uptoSmall }

/-- 'laws.FnSealHas', WHERE WHAT IT READS IS OF BULK AT MOST 1048576: true; the input reads as it did. -/
def fnSealHasUptoRow : OpenClaim := { program := "ytiocomefkckbfaadoor", sum := "3802579e388919c3a5a352f9f08ae2c4c5d28b45318eeebdbcb9ff59cb3a94b4", func := "loop.example/wayboard/laws.FnSealHas", spec := "fnSealHas", named := ["internal/strconv.uint64pow10", "math/bits.deBruijn32tab", "math/bits.deBruijn64tab"], plainKeys := false, apart := false, laid := [("math/bits.deBruijn32tab", laid_math_bits_deBruijn32tab), ("math/bits.deBruijn64tab", laid_math_bits_deBruijn64tab), ("internal/strconv.uint64pow10", laid_internal_strconv_uint64pow10)], narrowed := true }
def FnSealHasUptoSaid : Prop := fnSealHasUptoRow.holds Tryd.pinned (OpenSpec.upto fnSealHasSpec)

/-- 'laws.FnSealMake', WHERE WHAT IT READS IS OF BULK AT MOST 1048576: true; the input reads as it did. -/
def fnSealMakeUptoRow : OpenClaim := { program := "ytiocomefkckbfaadoor", sum := "3802579e388919c3a5a352f9f08ae2c4c5d28b45318eeebdbcb9ff59cb3a94b4", func := "loop.example/wayboard/laws.FnSealMake", spec := "fnSealMake", inPlace := ["internal/reflectlite.TypeOf"], unfollowed := true, recurses := true, named := ["loop.example/wayboard/impl.errPath", "internal/strconv.uint64pow10", "math/bits.deBruijn32tab", "math/bits.deBruijn64tab"], ifaces := true, plainKeys := false, apart := false, laid := [("math/bits.deBruijn32tab", laid_math_bits_deBruijn32tab), ("math/bits.deBruijn64tab", laid_math_bits_deBruijn64tab), ("internal/strconv.uint64pow10", laid_internal_strconv_uint64pow10), ("loop.example/wayboard/impl.errPath", laid_loop_example_wayboard_impl_errPath)], narrowed := true }
def FnSealMakeUptoSaid : Prop := fnSealMakeUptoRow.holds Tryd.pinned (OpenSpec.upto fnSealMakeSpec)

/-- 'laws.FnShorten', WHERE WHAT IT READS IS OF BULK AT MOST 1048576: true; the input reads as it did. -/
def fnShortenUptoRow : OpenClaim := { program := "ytiocomefkckbfaadoor", sum := "3802579e388919c3a5a352f9f08ae2c4c5d28b45318eeebdbcb9ff59cb3a94b4", func := "loop.example/wayboard/laws.FnShorten", spec := "fnShorten", inPlace := ["internal/reflectlite.TypeOf"], unfollowed := true, recurses := true, named := ["loop.example/wayboard/impl.errPath", "internal/strconv.uint64pow10", "math/bits.deBruijn32tab", "math/bits.deBruijn64tab"], ifaces := true, plainKeys := false, apart := false, laid := [("math/bits.deBruijn32tab", laid_math_bits_deBruijn32tab), ("math/bits.deBruijn64tab", laid_math_bits_deBruijn64tab), ("internal/strconv.uint64pow10", laid_internal_strconv_uint64pow10), ("loop.example/wayboard/impl.errPath", laid_loop_example_wayboard_impl_errPath)], narrowed := true }
def FnShortenUptoSaid : Prop := fnShortenUptoRow.holds Tryd.pinned (OpenSpec.upto fnShortenSpec)

/-- 'laws.FnSealRange', WHERE WHAT IT READS IS OF BULK AT MOST 1048576: true; the input reads as it did. -/
def fnSealRangeUptoRow : OpenClaim := { program := "ytiocomefkckbfaadoor", sum := "3802579e388919c3a5a352f9f08ae2c4c5d28b45318eeebdbcb9ff59cb3a94b4", func := "loop.example/wayboard/laws.FnSealRange", spec := "fnSealRange", inPlace := ["internal/reflectlite.TypeOf"], unfollowed := true, recurses := true, named := ["loop.example/wayboard/impl.errPath", "internal/strconv.uint64pow10", "math/bits.deBruijn32tab", "math/bits.deBruijn64tab"], ifaces := true, plainKeys := false, apart := false, laid := [("math/bits.deBruijn32tab", laid_math_bits_deBruijn32tab), ("math/bits.deBruijn64tab", laid_math_bits_deBruijn64tab), ("internal/strconv.uint64pow10", laid_internal_strconv_uint64pow10), ("loop.example/wayboard/impl.errPath", laid_loop_example_wayboard_impl_errPath)], narrowed := true }
def FnSealRangeUptoSaid : Prop := fnSealRangeUptoRow.holds Tryd.pinned (OpenSpec.upto fnSealRangeSpec)

/-- 'laws.FnHijack', WHERE WHAT IT READS IS OF BULK AT MOST 1048576: true; the input reads as it did. -/
def fnHijackUptoRow : OpenClaim := { program := "ytiocomefkckbfaadoor", sum := "3802579e388919c3a5a352f9f08ae2c4c5d28b45318eeebdbcb9ff59cb3a94b4", func := "loop.example/wayboard/laws.FnHijack", spec := "fnHijack", inPlace := ["internal/reflectlite.TypeOf"], unfollowed := true, recurses := true, named := ["loop.example/wayboard/impl.errPath", "internal/strconv.uint64pow10", "math/bits.deBruijn32tab", "math/bits.deBruijn64tab"], ifaces := true, plainKeys := false, apart := false, laid := [("math/bits.deBruijn32tab", laid_math_bits_deBruijn32tab), ("math/bits.deBruijn64tab", laid_math_bits_deBruijn64tab), ("internal/strconv.uint64pow10", laid_internal_strconv_uint64pow10), ("loop.example/wayboard/impl.errPath", laid_loop_example_wayboard_impl_errPath)], narrowed := true }
def FnHijackUptoSaid : Prop := fnHijackUptoRow.holds Tryd.pinned (OpenSpec.upto fnHijackSpec)

/-- 'laws.FnSealLacks', WHERE WHAT IT READS IS OF BULK AT MOST 1048576: true; the input reads as it did. -/
def fnSealLacksUptoRow : OpenClaim := { program := "ytiocomefkckbfaadoor", sum := "3802579e388919c3a5a352f9f08ae2c4c5d28b45318eeebdbcb9ff59cb3a94b4", func := "loop.example/wayboard/laws.FnSealLacks", spec := "fnSealLacks", inPlace := ["internal/reflectlite.TypeOf"], unfollowed := true, recurses := true, named := ["loop.example/wayboard/impl.errPath", "internal/strconv.uint64pow10", "math/bits.deBruijn32tab", "math/bits.deBruijn64tab"], ifaces := true, plainKeys := false, apart := false, laid := [("math/bits.deBruijn32tab", laid_math_bits_deBruijn32tab), ("math/bits.deBruijn64tab", laid_math_bits_deBruijn64tab), ("internal/strconv.uint64pow10", laid_internal_strconv_uint64pow10), ("loop.example/wayboard/impl.errPath", laid_loop_example_wayboard_impl_errPath)], narrowed := true }
def FnSealLacksUptoSaid : Prop := fnSealLacksUptoRow.holds Tryd.pinned (OpenSpec.upto fnSealLacksSpec)

/-- 'laws.FnSealOk', WHERE WHAT IT READS IS OF BULK AT MOST 1048576: true; the input reads as it did. -/
def fnSealOkUptoRow : OpenClaim := { program := "ytiocomefkckbfaadoor", sum := "3802579e388919c3a5a352f9f08ae2c4c5d28b45318eeebdbcb9ff59cb3a94b4", func := "loop.example/wayboard/laws.FnSealOk", spec := "fnSealOk", inPlace := ["internal/reflectlite.TypeOf"], unfollowed := true, recurses := true, named := ["loop.example/wayboard/impl.errPath", "internal/strconv.uint64pow10", "math/bits.deBruijn32tab", "math/bits.deBruijn64tab"], ifaces := true, plainKeys := false, apart := false, laid := [("math/bits.deBruijn32tab", laid_math_bits_deBruijn32tab), ("math/bits.deBruijn64tab", laid_math_bits_deBruijn64tab), ("internal/strconv.uint64pow10", laid_internal_strconv_uint64pow10), ("loop.example/wayboard/impl.errPath", laid_loop_example_wayboard_impl_errPath)], narrowed := true }
def FnSealOkUptoSaid : Prop := fnSealOkUptoRow.holds Tryd.pinned (OpenSpec.upto fnSealOkSpec)

/-- 'laws.FnSealMore', WHERE WHAT IT READS IS OF BULK AT MOST 1048576: true; the input reads as it did. -/
def fnSealMoreUptoRow : OpenClaim := { program := "ytiocomefkckbfaadoor", sum := "3802579e388919c3a5a352f9f08ae2c4c5d28b45318eeebdbcb9ff59cb3a94b4", func := "loop.example/wayboard/laws.FnSealMore", spec := "fnSealMore", inPlace := ["internal/reflectlite.TypeOf"], unfollowed := true, recurses := true, named := ["loop.example/wayboard/impl.errPath", "internal/strconv.uint64pow10", "math/bits.deBruijn32tab", "math/bits.deBruijn64tab"], ifaces := true, plainKeys := false, apart := false, laid := [("math/bits.deBruijn32tab", laid_math_bits_deBruijn32tab), ("math/bits.deBruijn64tab", laid_math_bits_deBruijn64tab), ("internal/strconv.uint64pow10", laid_internal_strconv_uint64pow10), ("loop.example/wayboard/impl.errPath", laid_loop_example_wayboard_impl_errPath)], narrowed := true }
def FnSealMoreUptoSaid : Prop := fnSealMoreUptoRow.holds Tryd.pinned (OpenSpec.upto fnSealMoreSpec)

end Rows
end Go.Proofs.YtiocomefkckbfaaDoor
