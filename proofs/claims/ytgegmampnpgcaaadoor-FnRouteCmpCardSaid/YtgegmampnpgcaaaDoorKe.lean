/- Ranges and entries compared; a slice compared with nil. -/
import Derived.Test.YtgegmampnpgcaaaDoorKa
import Derived.Laws.StructEq
import Derived.Lib.SliceRun
set_option linter.unusedSimpArgs false
set_option linter.unusedVariables false
namespace Go.Proofs.YtgegmampnpgcaaaDoor
open Go.RowKit

theorem rng_fields : (Tryd.prog.fieldsOf 24).toList = [⟨ "First", 3, 0, false, "", "", 0⟩, ⟨ "Bits", 3, 1, false, "", "", 8⟩] := by kernel_rfl
theorem rng_eq (f b g c : Int) (d : Nat) (w : World) : (Op.equalIn (d + 2) 24 (.agg #[.int .i64 f, .int .i64 b]) (.agg #[.int .i64 g, .int .i64 c])).run Tryd.prog w = .ok (f == g && b == c) w := by
  rw [run_equalIn_agg w (d + 1) 24 _ _ (by kernel_rfl) (by kernel_rfl), rng_fields]
  cases h1 : (f == g) <;> cases h2 : (b == c) <;> simp [Op.eqFields, go_sem, h1, h2]
theorem rng_neq (f b g c : Int) (w : World) : (binOp .neq 24 (.agg #[.int .i64 f, .int .i64 b]) (.agg #[.int .i64 g, .int .i64 c])).run Tryd.prog w = .ok (.bool (!(f == g && b == c))) w := by
  rw [run_neq_struct, rng_eq f b g c 9998]; rfl
theorem rng_eql (f b g c : Int) (w : World) : (binOp .eql 24 (.agg #[.int .i64 f, .int .i64 b]) (.agg #[.int .i64 g, .int .i64 c])).run Tryd.prog w = .ok (.bool (f == g && b == c)) w := by
  rw [run_eql_struct, rng_eq f b g c 9998]; rfl
end Go.Proofs.YtgegmampnpgcaaaDoor
