/- Ranges: what they have. -/
import Derived.Test.YtgegmampnpgcaaaDoorR1
set_option linter.unusedSimpArgs false
set_option linter.unusedVariables false
namespace Go.Proofs.YtgegmampnpgcaaaDoor
open Go.RowKit

theorem covers_any (f b x : Int) (h : ROk f b) (hx : 0 ≤ x) (hx' : x ≤ 255) (w : World) :
    Calls Tryd.prog 47 #[.agg #[.int .i64 f, .int .i64 b], .int .i64 x] w fun e w' => e = .returned (.bool (decide (Cov f b x))) ∧ Below w.heap.size w w' := by
  have hsz := sz_pos b
  obtain ⟨h0, h8, hf, hf', hm⟩ := h
  have hsz' := sz_le b h0
  have HM := Lib.hid hm; clear hm
  go_enter Tryd.func47, Tryd.ntmps47
  go_wp2
  have c0 := fun x : Cl _ (w.alloc _) => x.c2 (new2 w (.int .i64 f) (.int .i64 b) 24)
  first | refine wp_region_new (by kernel_rfl) (by kernel_rfl) ?_ | refine wp_region_lex ?_
  repeat (any_goals (first | go_big_quiet_step (((go_at_call 74; exact Calls.cl (many_any _ _ h0 h8 _)))) | (refine wpQuiet_step (fun K hK => ?_); go_simp; split <;> (rename_i hg; refine hK _ ?_; clear hK K; simp only [hg, decide_true, decide_false]))))
  all_goals (refine wpQuiet_nil ?_; intro x)
  all_goals go_wp2
  all_goals go_ret
  all_goals (refine ⟨ret_bool ?_, ((Below.refl _ _).alloc (Nat.le_refl _) _).trans (x.below.mono (by simp))⟩; rw [Bool.eq_iff_iff]; simp; unfold Cov; omega)
theorem l1Has_any (f b x : Int) (h : ROk f b) (hx : 0 ≤ x) (hx' : x ≤ 255) (w : World) :
    Calls Tryd.prog 86 #[.agg #[.int .i64 f, .int .i64 b], .int .i64 x] w fun e w' => e = .returned (.bool (decide (Cov f b x))) ∧ Below w.heap.size w w' := by
  have hsz := sz_pos b
  obtain ⟨h0, h8, hf, hf', hm⟩ := h
  have hsz' := sz_le b h0
  have HM := Lib.hid hm; clear hm
  go_enter Tryd.func86, Tryd.ntmps86
  go_wp2
  have c0 := fun x : Cl _ (w.alloc _) => x.c2 (new2 w (.int .i64 f) (.int .i64 b) 24)
  first | refine wp_region_new (by kernel_rfl) (by kernel_rfl) ?_ | refine wp_region_lex ?_
  repeat (any_goals (first | go_big_quiet_step (((go_at_call 72; exact Calls.cl (l1Size_new _ _ h0 h8)))) | (refine wpQuiet_step (fun K hK => ?_); go_simp; split <;> (rename_i hg; refine hK _ ?_; clear hK K; simp only [hg, decide_true, decide_false]))))
  all_goals (refine wpQuiet_nil ?_; intro x)
  all_goals go_wp2
  all_goals go_ret
  all_goals (refine ⟨ret_bool ?_, ((Below.refl _ _).alloc (Nat.le_refl _) _).trans (x.below.mono (by simp))⟩)
  rw [Bool.eq_iff_iff]; simp; unfold Cov; exact div_cov hsz HM.out
theorem iRangeIn_any (f b g c : Int) (w : World) :
    Calls Tryd.prog 15 #[.agg #[.int .i64 f, .int .i64 b], .agg #[.int .i64 g, .int .i64 c]] w fun e w' => e = .returned (.bool (decide (RIn f b g c))) ∧ Below w.heap.size w w' := by
  go_enter Tryd.func15, Tryd.ntmps15
  go_upto_region 1 with (fail)
  have c0 := fun x : Cl _ ((w.alloc _).alloc _) => x.c2 (new22 w (.int .i64 f) (.int .i64 b) (.int .i64 g) (.int .i64 c) 24 24)
  have c1 := fun x : Cl _ ((w.alloc _).alloc _) => x.c2 (new22' w (.int .i64 f) (.int .i64 b) (.int .i64 g) (.int .i64 c) 24 24)
  first | refine wp_region_new (by kernel_rfl) (by kernel_rfl) ?_ | refine wp_region_lex ?_
  repeat (any_goals (first | go_big_quiet_step ((first | (go_at_call 46; exact Calls.cl (iRangeOk_any _ _ _)) | (go_at_call 47; exact Calls.cl (covers_any _ _ _ (by assumption) (by simp only [ROk] at *; omega) (by simp only [ROk] at *; omega) _)))) | (refine wpQuiet_step (fun K hK => ?_); go_simp; split <;> (rename_i hg; refine hK _ ?_; clear hK K; simp only [hg, decide_true, decide_false]))))
  all_goals (refine wpQuiet_nil ?_; intro x)
  all_goals go_wp2
  all_goals go_ret
  all_goals (refine ⟨ret_bool ?_, (((Below.refl _ _).alloc (Nat.le_refl _) _).alloc (by simp) _).trans (x.below.mono (by simp; omega))⟩; refine Bool.eq_iff_iff.2 ?_; (try simp); try (unfold RIn; first | (simp [*]; done) | (simp [*]; intros; omega) | omega))
theorem l1In_any (f b g c : Int) (h : ROk f b) (h' : ROk g c) (w : World) :
    Calls Tryd.prog 71 #[.agg #[.int .i64 f, .int .i64 b], .agg #[.int .i64 g, .int .i64 c]] w fun e w' => e = .returned (.bool (decide (RIn f b g c))) ∧ Below w.heap.size w w' := by
  go_enter Tryd.func71, Tryd.ntmps71
  go_upto_region 1 with (fail)
  have c0 := fun x : Cl _ ((w.alloc _).alloc _) => x.c2 (new22 w (.int .i64 f) (.int .i64 b) (.int .i64 g) (.int .i64 c) 24 24)
  have c1 := fun x : Cl _ ((w.alloc _).alloc _) => x.c2 (new22' w (.int .i64 f) (.int .i64 b) (.int .i64 g) (.int .i64 c) 24 24)
  first | refine wp_region_new (by kernel_rfl) (by kernel_rfl) ?_ | refine wp_region_lex ?_
  repeat (any_goals (first | go_big_quiet_step ((first | (go_at_call 86; exact Calls.cl (l1Has_any _ _ _ (by assumption) (by simp only [ROk] at *; omega) (by simp only [ROk] at *; omega) _)))) | (refine wpQuiet_step (fun K hK => ?_); go_simp; split <;> (rename_i hg; refine hK _ ?_; clear hK K; simp only [hg, decide_true, decide_false]))))
  all_goals (refine wpQuiet_nil ?_; intro x)
  all_goals go_wp2
  all_goals go_ret
  all_goals (refine ⟨ret_bool ?_, (((Below.refl _ _).alloc (Nat.le_refl _) _).alloc (by simp) _).trans (x.below.mono (by simp; omega))⟩; refine Bool.eq_iff_iff.2 ?_; (try simp); try (unfold RIn; first | (simp [*]; done) | (simp [*]; intros; omega) | omega))
end Go.Proofs.YtgegmampnpgcaaaDoor
