/- Relations: who tells whom, by the reference. -/
import Derived.Test.YtfckmgeakdbdfaaMc
set_option linter.unusedSimpArgs false
set_option linter.unusedVariables false
namespace Go.Proofs.Ytfckmgeakdbdfaa
open Go.RowKit

def May1 (M : List (List Int)) (h o t : Int) : Prop := mgi M h t ≠ 0 ∧ (o = 0 ∨ mgi M h o = 1 ∨ mgi M h t = 1)
instance (M : List (List Int)) (h o t : Int) : Decidable (May1 M h o t) := by unfold May1; infer_instance
def MayP (M : List (List Int)) (h o t : Int) : Prop := RelsP M ∧ Bts h 1 M.length ∧ Bts o 0 M.length ∧ Bts t 1 M.length ∧ May1 M h o t
instance (M : List (List Int)) (h o t : Int) : Decidable (MayP M h o t) := by unfold MayP; infer_instance

set_option maxHeartbeats 1000000 in
theorem l12May_any (v : Value) (M : List (List Int)) (n : Nat) (hn : Hid (M.length = n)) (HP : Hid (RelsP M)) (h o t : Int) (w : World) (hM : Mat w v M) (hh : Bts h 1 n) (ho : Bts o 0 n) (ht : Bts t 1 n) :
    Calls Try.prog 47 #[v, .int .i64 h, .int .i64 o, .int .i64 t] w fun e w' => e = .returned (.bool (decide (May1 M h o t))) ∧ Below w.heap.size w w' := by
  have hF := Fb.start w
  by_cases h1 : mgi M h t = 0
  · have e1 : (mgi M h t == 0) = true := by simp [h1]
    have hr : decide (May1 M h o t) = false := by simp [May1, h1]
    rw [hr]; clear hr h1
    go_enter Try.func47, Try.ntmps47
    go_wp2_with (first | (go_at_call 15; go_must (refine (sRelsOk_any _ M _ hM).mono ?_); rintro e wx ⟨rfl, hbx⟩; replace hF := hF.below hbx; replace hM := hM.below hbx; clear hbx) | (go_at_call 41; go_must (refine (l6In_any _ _ _ _).mono ?_); rintro e wx ⟨rfl, hbx⟩; replace hF := hF.below hbx; replace hM := hM.below hbx; clear hbx) | (go_at_call 44; go_must (refine (l12Of_r _ M n hn HP _ _ _ hM (by assumption) (by assumption)).mono ?_); rintro e wx ⟨rfl, hbx⟩; replace hF := hF.below hbx; replace hM := hM.below hbx; clear hbx))
    go_ret
    exact ⟨rfl, hF.kp⟩
  have e1 : (mgi M h t == 0) = false := by simp [h1]
  by_cases h2 : o = 0
  · subst h2
    have hr : decide (May1 M h 0 t) = true := by simp [May1, h1]
    rw [hr]; clear hr h1
    go_enter Try.func47, Try.ntmps47
    go_wp2_with (first | (go_at_call 15; go_must (refine (sRelsOk_any _ M _ hM).mono ?_); rintro e wx ⟨rfl, hbx⟩; replace hF := hF.below hbx; replace hM := hM.below hbx; clear hbx) | (go_at_call 41; go_must (refine (l6In_any _ _ _ _).mono ?_); rintro e wx ⟨rfl, hbx⟩; replace hF := hF.below hbx; replace hM := hM.below hbx; clear hbx) | (go_at_call 44; go_must (refine (l12Of_r _ M n hn HP _ _ _ hM (by assumption) (by assumption)).mono ?_); rintro e wx ⟨rfl, hbx⟩; replace hF := hF.below hbx; replace hM := hM.below hbx; clear hbx))
    go_ret
    exact ⟨rfl, hF.kp⟩
  have e2 : (o == 0) = false := by simp [h2]
  have ho' : Bts o 1 n := by unfold Bts at *; omega
  by_cases h3 : mgi M h o = 1
  · have e3 : (mgi M h o == 1) = true := by simp [h3]
    have hr : decide (May1 M h o t) = true := by simp [May1, h1, h3]
    rw [hr]; clear hr h1 h2 h3
    go_enter Try.func47, Try.ntmps47
    go_wp2_with (first | (go_at_call 15; go_must (refine (sRelsOk_any _ M _ hM).mono ?_); rintro e wx ⟨rfl, hbx⟩; replace hF := hF.below hbx; replace hM := hM.below hbx; clear hbx) | (go_at_call 41; go_must (refine (l6In_any _ _ _ _).mono ?_); rintro e wx ⟨rfl, hbx⟩; replace hF := hF.below hbx; replace hM := hM.below hbx; clear hbx) | (go_at_call 44; go_must (refine (l12Of_r _ M n hn HP _ _ _ hM (by assumption) (by assumption)).mono ?_); rintro e wx ⟨rfl, hbx⟩; replace hF := hF.below hbx; replace hM := hM.below hbx; clear hbx))
    go_ret
    exact ⟨rfl, hF.kp⟩
  have e3 : (mgi M h o == 1) = false := by simp [h3]
  by_cases h4 : mgi M h t = 1
  · have e4 : (mgi M h t == 1) = true := by simp [h4]
    have hr : decide (May1 M h o t) = true := by simp [May1, h4]
    rw [hr]; clear hr h1 h2 h3 h4
    go_enter Try.func47, Try.ntmps47
    go_wp2_with (first | (go_at_call 15; go_must (refine (sRelsOk_any _ M _ hM).mono ?_); rintro e wx ⟨rfl, hbx⟩; replace hF := hF.below hbx; replace hM := hM.below hbx; clear hbx) | (go_at_call 41; go_must (refine (l6In_any _ _ _ _).mono ?_); rintro e wx ⟨rfl, hbx⟩; replace hF := hF.below hbx; replace hM := hM.below hbx; clear hbx) | (go_at_call 44; go_must (refine (l12Of_r _ M n hn HP _ _ _ hM (by assumption) (by assumption)).mono ?_); rintro e wx ⟨rfl, hbx⟩; replace hF := hF.below hbx; replace hM := hM.below hbx; clear hbx))
    go_ret
    exact ⟨rfl, hF.kp⟩
  · have e4 : (mgi M h t == 1) = false := by simp [h4]
    have hr : decide (May1 M h o t) = false := by simp [May1, h2, h3, h4]
    rw [hr]; clear hr h1 h2 h3 h4
    go_enter Try.func47, Try.ntmps47
    go_wp2_with (first | (go_at_call 15; go_must (refine (sRelsOk_any _ M _ hM).mono ?_); rintro e wx ⟨rfl, hbx⟩; replace hF := hF.below hbx; replace hM := hM.below hbx; clear hbx) | (go_at_call 41; go_must (refine (l6In_any _ _ _ _).mono ?_); rintro e wx ⟨rfl, hbx⟩; replace hF := hF.below hbx; replace hM := hM.below hbx; clear hbx) | (go_at_call 44; go_must (refine (l12Of_r _ M n hn HP _ _ _ hM (by assumption) (by assumption)).mono ?_); rintro e wx ⟨rfl, hbx⟩; replace hF := hF.below hbx; replace hM := hM.below hbx; clear hbx))
    go_ret
    exact ⟨rfl, hF.kp⟩

set_option maxHeartbeats 1000000 in
theorem sRelMay_any (v : Value) (M : List (List Int)) (h o t : Int) (w : World) (hM : Mat w v M) :
    Calls Try.prog 21 #[v, .int .i64 h, .int .i64 o, .int .i64 t] w fun e w' => e = .returned (.bool (decide (MayP M h o t))) ∧ Below w.heap.size w w' := by
  obtain ⟨ao, n, cap, rfl, hn, hn63⟩ := hM.sl
  have hF := Fb.start w
  have hr : decide (MayP M h o t) = (decide (RelsP M) && decide (Bts h 1 n) && decide (Bts o 0 n) && decide (Bts t 1 n) && decide (May1 M h o t)) := by
    rw [Bool.eq_iff_iff]; simp only [decide_eq_true_eq, Bool.and_eq_true, MayP, hn.out, and_assoc]
  rw [hr]; clear hr
  by_cases hp : RelsP M
  · have d1 : decide (RelsP M) = true := by simp [hp]
    have HP := Lib.hid hp
    clear hp
    rw [d1]
    by_cases hh : Bts h 1 n
    · have d2 : decide (Bts h 1 n) = true := by simp [hh]
      rw [d2]
      by_cases ho : Bts o 0 n
      · have d3 : decide (Bts o 0 n) = true := by simp [ho]
        rw [d3]
        by_cases ht : Bts t 1 n
        · have d4 : decide (Bts t 1 n) = true := by simp [ht]
          rw [d4]
          go_enter Try.func21, Try.ntmps21
          go_wp2_with (first | (go_at_call 15; go_must (refine (sRelsOk_any _ M _ hM).mono ?_); rintro e wx ⟨rfl, hbx⟩; replace hF := hF.below hbx; replace hM := hM.below hbx; clear hbx) | (go_at_call 41; go_must (refine (l6In_any _ _ _ _).mono ?_); rintro e wx ⟨rfl, hbx⟩; replace hF := hF.below hbx; replace hM := hM.below hbx; clear hbx) | (go_at_call 47; go_must (refine (l12May_any _ M n hn HP _ _ _ _ hM hh ho ht).mono ?_); rintro e wx ⟨rfl, hbx⟩; replace hF := hF.below hbx; replace hM := hM.below hbx; clear hbx))
          go_ret
          exact ⟨by simp, hF.kp⟩
        · have d4 : decide (Bts t 1 n) = false := by simp [ht]
          rw [d4]; clear ht
          go_enter Try.func21, Try.ntmps21
          go_wp2_with (first | (go_at_call 15; go_must (refine (sRelsOk_any _ M _ hM).mono ?_); rintro e wx ⟨rfl, hbx⟩; replace hF := hF.below hbx; replace hM := hM.below hbx; clear hbx) | (go_at_call 41; go_must (refine (l6In_any _ _ _ _).mono ?_); rintro e wx ⟨rfl, hbx⟩; replace hF := hF.below hbx; replace hM := hM.below hbx; clear hbx) | (go_at_call 44; go_must (refine (l12Of_r _ M n hn HP _ _ _ hM (by assumption) (by assumption)).mono ?_); rintro e wx ⟨rfl, hbx⟩; replace hF := hF.below hbx; replace hM := hM.below hbx; clear hbx))
          go_ret
          exact ⟨by simp, hF.kp⟩
      · have d3 : decide (Bts o 0 n) = false := by simp [ho]
        rw [d3]; clear ho
        go_enter Try.func21, Try.ntmps21
        go_wp2_with (first | (go_at_call 15; go_must (refine (sRelsOk_any _ M _ hM).mono ?_); rintro e wx ⟨rfl, hbx⟩; replace hF := hF.below hbx; replace hM := hM.below hbx; clear hbx) | (go_at_call 41; go_must (refine (l6In_any _ _ _ _).mono ?_); rintro e wx ⟨rfl, hbx⟩; replace hF := hF.below hbx; replace hM := hM.below hbx; clear hbx) | (go_at_call 44; go_must (refine (l12Of_r _ M n hn HP _ _ _ hM (by assumption) (by assumption)).mono ?_); rintro e wx ⟨rfl, hbx⟩; replace hF := hF.below hbx; replace hM := hM.below hbx; clear hbx))
        go_ret
        exact ⟨by simp, hF.kp⟩
    · have d2 : decide (Bts h 1 n) = false := by simp [hh]
      rw [d2]; clear hh
      go_enter Try.func21, Try.ntmps21
      go_wp2_with (first | (go_at_call 15; go_must (refine (sRelsOk_any _ M _ hM).mono ?_); rintro e wx ⟨rfl, hbx⟩; replace hF := hF.below hbx; replace hM := hM.below hbx; clear hbx) | (go_at_call 41; go_must (refine (l6In_any _ _ _ _).mono ?_); rintro e wx ⟨rfl, hbx⟩; replace hF := hF.below hbx; replace hM := hM.below hbx; clear hbx) | (go_at_call 44; go_must (refine (l12Of_r _ M n hn HP _ _ _ hM (by assumption) (by assumption)).mono ?_); rintro e wx ⟨rfl, hbx⟩; replace hF := hF.below hbx; replace hM := hM.below hbx; clear hbx))
      go_ret
      exact ⟨by simp, hF.kp⟩
  · have d1 : decide (RelsP M) = false := by simp [hp]
    rw [d1]; clear hp
    go_enter Try.func21, Try.ntmps21
    go_wp2_with (first | (go_at_call 15; go_must (refine (sRelsOk_any _ M _ hM).mono ?_); rintro e wx ⟨rfl, hbx⟩; replace hF := hF.below hbx; replace hM := hM.below hbx; clear hbx) | (go_at_call 41; go_must (refine (l6In_any _ _ _ _).mono ?_); rintro e wx ⟨rfl, hbx⟩; replace hF := hF.below hbx; replace hM := hM.below hbx; clear hbx) | (go_at_call 44; go_must (refine (l12Of_r _ M n hn HP _ _ _ hM (by assumption) (by assumption)).mono ?_); rintro e wx ⟨rfl, hbx⟩; replace hF := hF.below hbx; replace hM := hM.below hbx; clear hbx))
    go_ret
    exact ⟨by simp, hF.kp⟩
end Go.Proofs.Ytfckmgeakdbdfaa
