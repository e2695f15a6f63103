/- Ranges and entries compared; a slice compared with nil. -/
import Derived.Test.YtbhenfegklgkoaaKa
import Derived.Laws.StructEq
import Derived.Lib.SliceRun
set_option linter.unusedSimpArgs false
set_option linter.unusedVariables false
namespace Go.Proofs.Ytbhenfegklgkoaa
open Go.RowKit

theorem rng_fields : (Try.prog.fieldsOf 27).toList = [⟨ "First", 3, 0, false, "", "", 0⟩, ⟨ "Bits", 3, 1, false, "", "", 8⟩] := by kernel_rfl
theorem rng_eq (f b g c : Int) (d : Nat) (w : World) : (Op.equalIn (d + 2) 27 (.agg #[.int .i64 f, .int .i64 b]) (.agg #[.int .i64 g, .int .i64 c])).run Try.prog w = .ok (f == g && b == c) w := by
  rw [run_equalIn_agg w (d + 1) 27 _ _ (by kernel_rfl) (by kernel_rfl), rng_fields]
  cases h1 : (f == g) <;> cases h2 : (b == c) <;> simp [Op.eqFields, go_sem, h1, h2]
theorem rng_neq (f b g c : Int) (w : World) : (binOp .neq 27 (.agg #[.int .i64 f, .int .i64 b]) (.agg #[.int .i64 g, .int .i64 c])).run Try.prog w = .ok (.bool (!(f == g && b == c))) w := by
  rw [run_neq_struct, rng_eq f b g c 9998]; rfl
theorem rng_eql (f b g c : Int) (w : World) : (binOp .eql 27 (.agg #[.int .i64 f, .int .i64 b]) (.agg #[.int .i64 g, .int .i64 c])).run Try.prog w = .ok (.bool (f == g && b == c)) w := by
  rw [run_eql_struct, rng_eq f b g c 9998]; rfl
theorem ent_fields : (Try.prog.fieldsOf 29).toList = [⟨ "Range", 27, 0, false, "", "", 0⟩, ⟨ "Via", 3, 2, false, "", "", 16⟩] := by kernel_rfl
theorem ent_eq (f b v g c x : Int) (d : Nat) (w : World) : (Op.equalIn (d + 3) 29 (.agg #[.int .i64 f, .int .i64 b, .int .i64 v]) (.agg #[.int .i64 g, .int .i64 c, .int .i64 x])).run Try.prog w = .ok ((f == g && b == c) && v == x) w := by
  rw [run_equalIn_agg w (d + 2) 29 _ _ (by kernel_rfl) (by kernel_rfl), ent_fields]
  have hr := fun w => rng_eq f b g c d w
  cases h1 : (f == g && b == c) <;> cases h2 : (v == x) <;> rw [h1] at hr <;> simp [Op.eqFields, go_sem, hr, h2]
theorem ent_neq (f b v g c x : Int) (w : World) : (binOp .neq 29 (.agg #[.int .i64 f, .int .i64 b, .int .i64 v]) (.agg #[.int .i64 g, .int .i64 c, .int .i64 x])).run Try.prog w = .ok (.bool (!((f == g && b == c) && v == x))) w := by
  rw [run_neq_struct, ent_eq f b v g c x 9997]; rfl
theorem ent_eql (f b v g c x : Int) (w : World) : (binOp .eql 29 (.agg #[.int .i64 f, .int .i64 b, .int .i64 v]) (.agg #[.int .i64 g, .int .i64 c, .int .i64 x])).run Try.prog w = .ok (.bool ((f == g && b == c) && v == x)) w := by
  rw [run_eql_struct, ent_eq f b v g c x 9997]; rfl
theorem sl_nil (a : Option Addr) (n c : Nat) (w : World) : (binOp .eql 23 (.slice a n c) (.slice none 0 0)).run Try.prog w = .ok (.bool a.isNone) w := Go.Lib.run_eql_slice_nil w 23 29 a n c 0 0 Try.underlying23
end Go.Proofs.Ytbhenfegklgkoaa
