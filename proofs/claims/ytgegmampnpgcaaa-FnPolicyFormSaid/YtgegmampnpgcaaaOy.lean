/- Houses. -/
import Derived.Test.YtgegmampnpgcaaaOz
set_option linter.unusedSimpArgs false
set_option linter.unusedVariables false
namespace Go.Proofs.Ytgegmampnpgcaaa
open Go.RowKit

theorem isHouse_any (n : Int) (w : World) :
    Calls Try.prog 24 #[.int .i64 n] w fun e w' => e = .returned (.bool (decide (Bts n 1 5))) ∧ Below w.heap.size w w' := by
  go_enter Try.func24, Try.ntmps24
  go_wp2
  all_goals (go_ret; refine ⟨ret_bool ?_, Below.refl _ _⟩; refine Bool.eq_iff_iff.2 ?_; (try simp); try (unfold Bts; first | (simp [*]; done) | (simp [*]; intros; omega) | omega))
theorem l3House_any (n : Int) (w : World) :
    Calls Try.prog 20 #[.int .i64 n] w fun e w' => e = .returned (.bool (decide (Bts n 1 5))) ∧ Below w.heap.size w w' := by
  go_enter Try.func20, Try.ntmps20
  go_wp2_with (go_at_call 18; refine (l6In_any _ _ _ _).mono ?_; rintro e w1 ⟨rfl, hb1⟩)
  go_ret
  exact ⟨rfl, hb1⟩
theorem isMark_any (n : Int) (w : World) :
    Calls Try.prog 17 #[.int .i64 n] w fun e w' => e = .returned (.bool (decide (Bts n 1 9))) ∧ Below w.heap.size w w' := by
  go_enter Try.func17, Try.ntmps17
  go_wp2
  all_goals (go_ret; refine ⟨ret_bool ?_, Below.refl _ _⟩; refine Bool.eq_iff_iff.2 ?_; (try simp); try (unfold Bts; first | (simp [*]; done) | (simp [*]; intros; omega) | omega))
end Go.Proofs.Ytgegmampnpgcaaa
