/- A map keyed by two numbers. -/
import Derived.Test.YtfckmgeakdbdfaaMa
import Derived.Maps.OwnOps
import Derived.Maps.Views
import Derived.Maps.RangeWalk
import Derived.DeepKeys4
import Derived.WideKeyArgs2
set_option linter.unusedSimpArgs false
set_option linter.unusedVariables false
namespace Go.Proofs.Ytfckmgeakdbdfaa
open Go.RowKit Go.Maps Go.WideMaps

theorem km_laid : laidOutB Try.prog = true := by kernel_rfl
theorem km_row : (67 : TypeId) < Try.prog.types.size := of_decide_eq_true (by kernel_rfl)
theorem km_wide : (match Try.prog.underlying 67 with | some (.array _ _) | some (.struct _) => true | _ => false) = true := by kernel_rfl
theorem km_law : KeyLaw Try.prog 67 := deep_law_laid km_laid (m := 2) (by omega) km_row (by kernel_rfl) km_wide
theorem km_keyed : Keyed Try.prog 67 := Keyed.of_law km_law
theorem km_cells : Try.prog.cellsOf 67 = 2 := by kernel_rfl
theorem km_type : Try.prog.keyType 67 = true := by kernel_rfl
theorem km_zero (w : World) : (zeroValue 3).run Try.prog w = .ok (.int .i64 0) w := by kernel_rfl
def kl (a c : Int) : Lit := .string (keyBytes [.int .i64 a, .int .i64 c])
theorem km_size : ∃ d, Try.prog.types.size + 1 = d + 2 := by
  have h : (67 : Nat) < Try.prog.types.size := km_row
  generalize Try.prog.types.size = s at h
  exact ⟨s - 1, by omega⟩
theorem km_key (a c : Int) (ha : (Lit.int .i64 a).wf = true) (hc : (Lit.int .i64 c).wf = true) : keyOf Try.prog 67 (.agg #[.int .i64 a, .int .i64 c]) = some (kl a c) := by
  have hf : (Value.agg #[.int .i64 a, .int .i64 c]).formed Try.prog 67 = true := by
    simp [Value.formed, Try.underlying67, km_cells]
  obtain ⟨d, hd⟩ := km_size
  have hcc : Try.prog.cellsOf 3 = 1 := by kernel_rfl
  unfold keyOf
  simp only [Try.underlying67, km_type, hf, hd]
  simp [Program.keyLits, Try.underlying67, Try.underlying3, km_cells, hcc, ha, hc, Value.cells, kl, List.mapM_cons]
end Go.Proofs.Ytfckmgeakdbdfaa
