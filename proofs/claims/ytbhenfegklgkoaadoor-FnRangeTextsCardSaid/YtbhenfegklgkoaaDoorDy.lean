/- What the range laws draw: two ranges to compare. -/
import Derived.Test.YtbhenfegklgkoaaDoorDc
set_option linter.unusedSimpArgs false
set_option linter.unusedVariables false
namespace Go.Proofs.YtbhenfegklgkoaaDoor
open Go.RowKit

theorem drawCmp_any (v : Value) (w : World) (h : Given w v) :
    Calls Tryd.prog 4 #[v] w fun e w' => ∃ a b c d : Int, e = .returned (.tuple #[.agg #[.int .i64 a, .int .i64 b], .agg #[.int .i64 c, .int .i64 d]]) ∧ Sm a b ∧ Sm c d ∧ Below w.heap.size w w' := by
  have hF := ((Fr.start (w.heap.size + 2) w).alloc' [.int .i64 0, .int .i64 0] 24 (by omega)).alloc' [.int .i64 0, .int .i64 0] 24 (by simp)
  have hG := (h.alloc (.cells #[.int .i64 0, .int .i64 0] 24)).alloc (.cells #[.int .i64 0, .int .i64 0] 24)
  go_enter Tryd.func4, Tryd.ntmps4
  go_wp2_with fail
  refine (open_any v _ hG).mono ?_; rintro e w1 ⟨rfl, hR, hb1⟩
  simp only [World.size_alloc] at hR
  replace hF := hF.below hb1
  go_wp2_with fail
  refine (l91Two_any _ 0 _ hR (by omega)).mono ?_; rintro e w2 ⟨a, b, c, d, rfl, sA, sC, -, hK⟩
  replace hF := hF.call hK
  have o := hF.own; simp only [World.size_alloc, World.size_drew, World.size_setCell, List.mem_cons, List.not_mem_nil, or_false, forall_eq_or_imp, forall_eq, At, and_true, Nat.zero_add, Nat.reduceAdd, List.set_cons_zero, List.set_cons_succ] at o
  go_wp2
  exact bodyPost_ret (v := .tuple #[.agg #[.int .i64 a, .int .i64 b], .agg #[.int .i64 c, .int .i64 d]]) (by simp [results, Tryd.results4, go_sem, o]) rfl ⟨a, b, c, d, rfl, sA, sC, by have kp := hF.kp; repeat (first | (refine Below.setCell ?_ (by dsimp only; omega) _) | exact kp.below (by omega) (Nat.le_refl _))⟩
end Go.Proofs.YtbhenfegklgkoaaDoor
