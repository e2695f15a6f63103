/- Ranges: what they have. -/
import Derived.Test.YtbhenfegklgkoaaR1
set_option linter.unusedSimpArgs false
set_option linter.unusedVariables false
namespace Go.Proofs.Ytbhenfegklgkoaa
open Go.RowKit

theorem covers_any (f b x : Int) (h : ROk f b) (hx : 0 ≤ x) (hx' : x ≤ 255) (w : World) :
    Calls Try.prog 54 #[.agg #[.int .i64 f, .int .i64 b], .int .i64 x] w fun e w' => e = .returned (.bool (decide (Cov f b x))) ∧ Below w.heap.size w w' := by
  have hsz := sz_pos b
  obtain ⟨h0, h8, hf, hf', hm⟩ := h
  have hsz' := sz_le b h0
  have HM := Lib.hid hm; clear hm
  go_enter Try.func54, Try.ntmps54
  go_wp2
  have c0 := fun x : Cl _ (w.alloc _) => x.c2 (new2 w (.int .i64 f) (.int .i64 b) 27)
  first | refine wp_region_new (by kernel_rfl) (by kernel_rfl) ?_ | refine wp_region_lex ?_
  repeat (any_goals (first | go_big_quiet_step (((go_at_call 55; exact Calls.cl (many_any _ _ h0 h8 _)))) | (refine wpQuiet_step (fun K hK => ?_); go_simp; split <;> (rename_i hg; refine hK _ ?_; clear hK K; simp only [hg, decide_true, decide_false]))))
  all_goals (refine wpQuiet_nil ?_; intro x)
  all_goals go_wp2
  all_goals go_ret
  all_goals (refine ⟨ret_bool ?_, ((Below.refl _ _).alloc (Nat.le_refl _) _).trans (x.below.mono (by simp))⟩; rw [Bool.eq_iff_iff]; simp; unfold Cov; omega)
theorem l1Has_any (f b x : Int) (h : ROk f b) (hx : 0 ≤ x) (hx' : x ≤ 255) (w : World) :
    Calls Try.prog 70 #[.agg #[.int .i64 f, .int .i64 b], .int .i64 x] w fun e w' => e = .returned (.bool (decide (Cov f b x))) ∧ Below w.heap.size w w' := by
  have hsz := sz_pos b
  obtain ⟨h0, h8, hf, hf', hm⟩ := h
  have hsz' := sz_le b h0
  have HM := Lib.hid hm; clear hm
  go_enter Try.func70, Try.ntmps70
  go_wp2
  have c0 := fun x : Cl _ (w.alloc _) => x.c2 (new2 w (.int .i64 f) (.int .i64 b) 27)
  first | refine wp_region_new (by kernel_rfl) (by kernel_rfl) ?_ | refine wp_region_lex ?_
  repeat (any_goals (first | go_big_quiet_step (((go_at_call 64; exact Calls.cl (l1Size_new _ _ h0 h8)))) | (refine wpQuiet_step (fun K hK => ?_); go_simp; split <;> (rename_i hg; refine hK _ ?_; clear hK K; simp only [hg, decide_true, decide_false]))))
  all_goals (refine wpQuiet_nil ?_; intro x)
  all_goals go_wp2
  all_goals go_ret
  all_goals (refine ⟨ret_bool ?_, ((Below.refl _ _).alloc (Nat.le_refl _) _).trans (x.below.mono (by simp))⟩)
  rw [Bool.eq_iff_iff]; simp; unfold Cov; exact div_cov hsz HM.out
theorem iRangeHas_any (f b x : Int) (w : World) :
    Calls Try.prog 21 #[.agg #[.int .i64 f, .int .i64 b], .int .i64 x] w fun e w' => e = .returned (.bool (decide (RHas f b x))) ∧ Below w.heap.size w w' := by
  go_enter Try.func21, Try.ntmps21
  go_upto_region 1 with (fail)
  have c0 := fun x : Cl _ (w.alloc _) => x.c2 (new2 w (.int .i64 f) (.int .i64 b) 27)
  first | refine wp_region_new (by kernel_rfl) (by kernel_rfl) ?_ | refine wp_region_lex ?_
  repeat (any_goals (first | go_big_quiet_step ((first | (go_at_call 53; exact Calls.cl (iRangeOk_any _ _ _)) | (go_at_call 48; exact Calls.cl (isAddr_any _ _)) | (go_at_call 54; exact Calls.cl (covers_any _ _ _ (by assumption) (by unfold Adr at *; omega) (by unfold Adr at *; omega) _)))) | (refine wpQuiet_step (fun K hK => ?_); go_simp; split <;> (rename_i hg; refine hK _ ?_; clear hK K; simp only [hg, decide_true, decide_false]))))
  all_goals (refine wpQuiet_nil ?_; intro x)
  all_goals go_wp2
  all_goals go_ret
  all_goals (refine ⟨ret_bool ?_, ((Below.refl _ _).alloc (Nat.le_refl _) _).trans (x.below.mono (by simp))⟩; refine Bool.eq_iff_iff.2 ?_; (try simp); try (unfold RHas; first | (simp [*]; done) | (simp [*]; intros; omega) | omega))
theorem iRangeIn_any (f b g c : Int) (w : World) :
    Calls Try.prog 22 #[.agg #[.int .i64 f, .int .i64 b], .agg #[.int .i64 g, .int .i64 c]] w fun e w' => e = .returned (.bool (decide (RIn f b g c))) ∧ Below w.heap.size w w' := by
  go_enter Try.func22, Try.ntmps22
  go_upto_region 1 with (fail)
  have c0 := fun x : Cl _ ((w.alloc _).alloc _) => x.c2 (new22 w (.int .i64 f) (.int .i64 b) (.int .i64 g) (.int .i64 c) 27 27)
  have c1 := fun x : Cl _ ((w.alloc _).alloc _) => x.c2 (new22' w (.int .i64 f) (.int .i64 b) (.int .i64 g) (.int .i64 c) 27 27)
  first | refine wp_region_new (by kernel_rfl) (by kernel_rfl) ?_ | refine wp_region_lex ?_
  repeat (any_goals (first | go_big_quiet_step ((first | (go_at_call 53; exact Calls.cl (iRangeOk_any _ _ _)) | (go_at_call 54; exact Calls.cl (covers_any _ _ _ (by assumption) (by simp only [ROk] at *; omega) (by simp only [ROk] at *; omega) _)))) | (refine wpQuiet_step (fun K hK => ?_); go_simp; split <;> (rename_i hg; refine hK _ ?_; clear hK K; simp only [hg, decide_true, decide_false]))))
  all_goals (refine wpQuiet_nil ?_; intro x)
  all_goals go_wp2
  all_goals go_ret
  all_goals (refine ⟨ret_bool ?_, (((Below.refl _ _).alloc (Nat.le_refl _) _).alloc (by simp) _).trans (x.below.mono (by simp; omega))⟩; refine Bool.eq_iff_iff.2 ?_; (try simp); try (unfold RIn; first | (simp [*]; done) | (simp [*]; intros; omega) | omega))
theorem iRangeMany_any (f b : Int) (w : World) :
    Calls Try.prog 23 #[.agg #[.int .i64 f, .int .i64 b]] w fun e w' => e = .returned (.int .i64 (if ROk f b then sz b else 0)) ∧ Below w.heap.size w w' := by
  by_cases h : ROk f b
  · have hd : decide (ROk f b) = true := by simp [h]
    rw [if_pos h]
    go_enter Try.func23, Try.ntmps23
    go_wp2_with fail
    refine (iRangeOk_any f b _).mono ?_; rintro e w1 ⟨rfl, hb⟩
    have c0 := (bcell hb).1
    go_wp2_with fail
    refine (many_any f b h.1 h.2.1 _).mono ?_; rintro e w2 ⟨rfl, hb2⟩
    go_wp2
    go_ret
    exact ⟨rfl, ((Below.refl _ _).alloc (Nat.le_refl _) _).trans ((hb.trans (hb2.mono hb.size)).mono (by simp))⟩
  · have hd : decide (ROk f b) = false := by simp [h]
    rw [if_neg h]
    go_enter Try.func23, Try.ntmps23
    go_wp2_with fail
    refine (iRangeOk_any f b _).mono ?_; rintro e w1 ⟨rfl, hb⟩
    go_wp2
    go_ret
    exact ⟨rfl, ((Below.refl _ _).alloc (Nat.le_refl _) _).trans (hb.mono (by simp))⟩
end Go.Proofs.Ytbhenfegklgkoaa
