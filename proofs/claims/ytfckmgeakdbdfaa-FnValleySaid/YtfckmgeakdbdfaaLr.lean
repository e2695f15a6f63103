/- Laws on relations: FnRelBack, FnRelMay, FnRelTell, FnValley. -/
import Derived.Test.YtfckmgeakdbdfaaMt
set_option linter.unusedSimpArgs false
set_option linter.unusedVariables false
namespace Go.Proofs.Ytfckmgeakdbdfaa
open Go.RowKit

set_option maxHeartbeats 1000000 in
theorem FnRelBack_walk (a0 : Option Addr) (n0 c0 : Nat) (w : World) (h0 : Given w (.slice a0 n0 c0)) :
    Calls Try.prog 4 #[.slice a0 n0 c0] w fun e w' => e = .returned (.bool true) ∧ Below w.heap.size w w' := by
  by_cases hn0 : 1048576 < n0
  · have e0 : decide (1048576 < (n0 : Int)) = true := by simp; omega
    go_enter Try.func4, Try.ntmps4
    go_wp2
    go_ret
    exact ⟨rfl, Below.refl _ _⟩
  have e0 : decide (1048576 < (n0 : Int)) = false := by simp; omega
  have hF := Fb.start w
  go_enter Try.func4, Try.ntmps4
  go_wp2_with fail
  refine (drawRelOf_any _ _ h0).mono ?_; rintro e w1 ⟨v, M, a, b, rfl, hM, hSq, a1, a2, b1, b2, hb1⟩
  replace hF := hF.below hb1
  clear hb1 h0 hSq
  by_cases hp : RelsP M
  · have dp : decide (RelsP M) = true := by simp [hp]
    have hbd := relof_bd M a b
    have hbk := @relof_back M a b
    have hself : a = b → relof M a b = 0 := fun e => by rw [e]; exact relof_self
    unfold Bts at hbd
    have hn : relof M a b = 0 ∨ relof M a b = 1 ∨ relof M a b = 2 ∨ relof M a b = 3 := by omega
    clear hbd hp
    by_cases hab : a = b
    · have e1 : relof M a b = 0 := hself hab
      have e2 : relof M b a = 0 := by rw [hbk, e1]; rfl
      have dab : (a != b) = false := by simp [hab]
      clear hbk hself hn hab
      go_wp2_with (first | (go_at_call 17; go_must (refine (iRelOf_any _ M _ _ _ hM (by omega) (by omega) (by omega) (by omega)).mono ?_); rintro e wx ⟨rfl, hbx⟩; replace hF := hF.below hbx; replace hM := hM.below hbx; clear hbx) | (go_at_call 18; go_must (refine (sRelOf_any _ M _ _ _ hM).mono ?_); rintro e wx ⟨rfl, hbx⟩; replace hF := hF.below hbx; replace hM := hM.below hbx; clear hbx) | (go_at_call 15; go_must (refine (sRelsOk_any _ M _ hM).mono ?_); rintro e wx ⟨rfl, hbx⟩; replace hF := hF.below hbx; replace hM := hM.below hbx; clear hbx) | (go_at_call 20; go_must (refine (iRelMay_any _ M _ _ _ _ hM (by omega) (by omega) (by omega) (by omega) (by omega) (by omega)).mono ?_); rintro e wx ⟨rfl, hbx⟩; replace hF := hF.below hbx; replace hM := hM.below hbx; clear hbx) | (go_at_call 21; go_must (refine (sRelMay_any _ M _ _ _ _ hM).mono ?_); rintro e wx ⟨rfl, hbx⟩; replace hF := hF.below hbx; replace hM := hM.below hbx; clear hbx))
      go_ret
      exact ⟨rfl, hF.kp⟩
    · have dab : (a != b) = true := by simp [hab]
      rcases hn with e1 | e1 | e1 | e1
      · have e2 : relof M b a = 0 := by rw [hbk, e1]; rfl
        clear hbk hself hab
        go_wp2_with (first | (go_at_call 17; go_must (refine (iRelOf_any _ M _ _ _ hM (by omega) (by omega) (by omega) (by omega)).mono ?_); rintro e wx ⟨rfl, hbx⟩; replace hF := hF.below hbx; replace hM := hM.below hbx; clear hbx) | (go_at_call 18; go_must (refine (sRelOf_any _ M _ _ _ hM).mono ?_); rintro e wx ⟨rfl, hbx⟩; replace hF := hF.below hbx; replace hM := hM.below hbx; clear hbx) | (go_at_call 15; go_must (refine (sRelsOk_any _ M _ hM).mono ?_); rintro e wx ⟨rfl, hbx⟩; replace hF := hF.below hbx; replace hM := hM.below hbx; clear hbx) | (go_at_call 20; go_must (refine (iRelMay_any _ M _ _ _ _ hM (by omega) (by omega) (by omega) (by omega) (by omega) (by omega)).mono ?_); rintro e wx ⟨rfl, hbx⟩; replace hF := hF.below hbx; replace hM := hM.below hbx; clear hbx) | (go_at_call 21; go_must (refine (sRelMay_any _ M _ _ _ _ hM).mono ?_); rintro e wx ⟨rfl, hbx⟩; replace hF := hF.below hbx; replace hM := hM.below hbx; clear hbx))
        go_ret
        exact ⟨rfl, hF.kp⟩
      · have e2 : relof M b a = 3 := by rw [hbk, e1]; rfl
        clear hbk hself hab
        go_wp2_with (first | (go_at_call 17; go_must (refine (iRelOf_any _ M _ _ _ hM (by omega) (by omega) (by omega) (by omega)).mono ?_); rintro e wx ⟨rfl, hbx⟩; replace hF := hF.below hbx; replace hM := hM.below hbx; clear hbx) | (go_at_call 18; go_must (refine (sRelOf_any _ M _ _ _ hM).mono ?_); rintro e wx ⟨rfl, hbx⟩; replace hF := hF.below hbx; replace hM := hM.below hbx; clear hbx) | (go_at_call 15; go_must (refine (sRelsOk_any _ M _ hM).mono ?_); rintro e wx ⟨rfl, hbx⟩; replace hF := hF.below hbx; replace hM := hM.below hbx; clear hbx) | (go_at_call 20; go_must (refine (iRelMay_any _ M _ _ _ _ hM (by omega) (by omega) (by omega) (by omega) (by omega) (by omega)).mono ?_); rintro e wx ⟨rfl, hbx⟩; replace hF := hF.below hbx; replace hM := hM.below hbx; clear hbx) | (go_at_call 21; go_must (refine (sRelMay_any _ M _ _ _ _ hM).mono ?_); rintro e wx ⟨rfl, hbx⟩; replace hF := hF.below hbx; replace hM := hM.below hbx; clear hbx))
        go_ret
        exact ⟨rfl, hF.kp⟩
      · have e2 : relof M b a = 2 := by rw [hbk, e1]; rfl
        clear hbk hself hab
        go_wp2_with (first | (go_at_call 17; go_must (refine (iRelOf_any _ M _ _ _ hM (by omega) (by omega) (by omega) (by omega)).mono ?_); rintro e wx ⟨rfl, hbx⟩; replace hF := hF.below hbx; replace hM := hM.below hbx; clear hbx) | (go_at_call 18; go_must (refine (sRelOf_any _ M _ _ _ hM).mono ?_); rintro e wx ⟨rfl, hbx⟩; replace hF := hF.below hbx; replace hM := hM.below hbx; clear hbx) | (go_at_call 15; go_must (refine (sRelsOk_any _ M _ hM).mono ?_); rintro e wx ⟨rfl, hbx⟩; replace hF := hF.below hbx; replace hM := hM.below hbx; clear hbx) | (go_at_call 20; go_must (refine (iRelMay_any _ M _ _ _ _ hM (by omega) (by omega) (by omega) (by omega) (by omega) (by omega)).mono ?_); rintro e wx ⟨rfl, hbx⟩; replace hF := hF.below hbx; replace hM := hM.below hbx; clear hbx) | (go_at_call 21; go_must (refine (sRelMay_any _ M _ _ _ _ hM).mono ?_); rintro e wx ⟨rfl, hbx⟩; replace hF := hF.below hbx; replace hM := hM.below hbx; clear hbx))
        go_ret
        exact ⟨rfl, hF.kp⟩
      · have e2 : relof M b a = 1 := by rw [hbk, e1]; rfl
        clear hbk hself hab
        go_wp2_with (first | (go_at_call 17; go_must (refine (iRelOf_any _ M _ _ _ hM (by omega) (by omega) (by omega) (by omega)).mono ?_); rintro e wx ⟨rfl, hbx⟩; replace hF := hF.below hbx; replace hM := hM.below hbx; clear hbx) | (go_at_call 18; go_must (refine (sRelOf_any _ M _ _ _ hM).mono ?_); rintro e wx ⟨rfl, hbx⟩; replace hF := hF.below hbx; replace hM := hM.below hbx; clear hbx) | (go_at_call 15; go_must (refine (sRelsOk_any _ M _ hM).mono ?_); rintro e wx ⟨rfl, hbx⟩; replace hF := hF.below hbx; replace hM := hM.below hbx; clear hbx) | (go_at_call 20; go_must (refine (iRelMay_any _ M _ _ _ _ hM (by omega) (by omega) (by omega) (by omega) (by omega) (by omega)).mono ?_); rintro e wx ⟨rfl, hbx⟩; replace hF := hF.below hbx; replace hM := hM.below hbx; clear hbx) | (go_at_call 21; go_must (refine (sRelMay_any _ M _ _ _ _ hM).mono ?_); rintro e wx ⟨rfl, hbx⟩; replace hF := hF.below hbx; replace hM := hM.below hbx; clear hbx))
        go_ret
        exact ⟨rfl, hF.kp⟩
  · have dp : decide (RelsP M) = false := by simp [hp]
    clear hp
    go_wp2_with (first | (go_at_call 17; go_must (refine (iRelOf_any _ M _ _ _ hM (by omega) (by omega) (by omega) (by omega)).mono ?_); rintro e wx ⟨rfl, hbx⟩; replace hF := hF.below hbx; replace hM := hM.below hbx; clear hbx) | (go_at_call 18; go_must (refine (sRelOf_any _ M _ _ _ hM).mono ?_); rintro e wx ⟨rfl, hbx⟩; replace hF := hF.below hbx; replace hM := hM.below hbx; clear hbx) | (go_at_call 15; go_must (refine (sRelsOk_any _ M _ hM).mono ?_); rintro e wx ⟨rfl, hbx⟩; replace hF := hF.below hbx; replace hM := hM.below hbx; clear hbx) | (go_at_call 20; go_must (refine (iRelMay_any _ M _ _ _ _ hM (by omega) (by omega) (by omega) (by omega) (by omega) (by omega)).mono ?_); rintro e wx ⟨rfl, hbx⟩; replace hF := hF.below hbx; replace hM := hM.below hbx; clear hbx) | (go_at_call 21; go_must (refine (sRelMay_any _ M _ _ _ _ hM).mono ?_); rintro e wx ⟨rfl, hbx⟩; replace hF := hF.below hbx; replace hM := hM.below hbx; clear hbx))
    go_ret
    exact ⟨rfl, hF.kp⟩

theorem may_law {M : List (List Int)} (hp : RelsP M) {h o t : Int} (hh : 1 ≤ h) (ho : 0 ≤ o) (ho' : o ≤ M.length) (ht : 1 ≤ t) (ht' : t ≤ M.length) (hh' : h ≤ M.length) : MayP M h o t ↔ MayR M h o t := by
  rw [mayP_r]
  constructor
  · exact fun g => g.2.2.2.2
  · exact fun g => ⟨hp, ⟨hh, hh'⟩, ⟨ht, ht'⟩, by unfold Bts; omega, g⟩

set_option maxHeartbeats 1000000 in
theorem FnRelMay_walk (a0 : Option Addr) (n0 c0 : Nat) (w : World) (h0 : Given w (.slice a0 n0 c0)) :
    Calls Try.prog 5 #[.slice a0 n0 c0] w fun e w' => e = .returned (.bool true) ∧ Below w.heap.size w w' := by
  by_cases hn0 : 1048576 < n0
  · have e0 : decide (1048576 < (n0 : Int)) = true := by simp; omega
    go_enter Try.func5, Try.ntmps5
    go_wp2
    go_ret
    exact ⟨rfl, Below.refl _ _⟩
  have e0 : decide (1048576 < (n0 : Int)) = false := by simp; omega
  have hF := Fb.start w
  go_enter Try.func5, Try.ntmps5
  go_wp2_with fail
  refine (drawRelMay_any _ _ h0).mono ?_; rintro e w1 ⟨v, M, a, b, c, rfl, hM, hSq, a1, a2, b1, b2, c1, c2, hb1⟩
  replace hF := hF.below hb1
  clear hb1 h0
  obtain ⟨ao, n, cap, rfl, hn, hn63⟩ := hM.sl
  have hN := hn.out
  have hn5 := hSq.2.1
  clear hSq
  by_cases hp : RelsP M
  · have dp : decide (RelsP M) = true := by simp [hp]
    by_cases han : (n : Int) < a
    · have dan : decide ((n : Int) < a) = true := by simp [han]
      clear hp han
      go_wp2_with (first | (go_at_call 17; go_must (refine (iRelOf_any _ M _ _ _ hM (by omega) (by omega) (by omega) (by omega)).mono ?_); rintro e wx ⟨rfl, hbx⟩; replace hF := hF.below hbx; replace hM := hM.below hbx; clear hbx) | (go_at_call 18; go_must (refine (sRelOf_any _ M _ _ _ hM).mono ?_); rintro e wx ⟨rfl, hbx⟩; replace hF := hF.below hbx; replace hM := hM.below hbx; clear hbx) | (go_at_call 15; go_must (refine (sRelsOk_any _ M _ hM).mono ?_); rintro e wx ⟨rfl, hbx⟩; replace hF := hF.below hbx; replace hM := hM.below hbx; clear hbx) | (go_at_call 20; go_must (refine (iRelMay_any _ M _ _ _ _ hM (by omega) (by omega) (by omega) (by omega) (by omega) (by omega)).mono ?_); rintro e wx ⟨rfl, hbx⟩; replace hF := hF.below hbx; replace hM := hM.below hbx; clear hbx) | (go_at_call 21; go_must (refine (sRelMay_any _ M _ _ _ _ hM).mono ?_); rintro e wx ⟨rfl, hbx⟩; replace hF := hF.below hbx; replace hM := hM.below hbx; clear hbx))
      go_ret
      exact ⟨by simp, hF.kp⟩
    · have dan : decide ((n : Int) < a) = false := by simp; omega
      have hl' : decide (MayP M a b c) = decide (MayR M a b c) := decide_eq_decide.2 (may_law hp (h := a) (o := b) (t := c) (by omega) (by omega) (by omega) (by omega) (by omega) (by omega))
      clear hp han
      by_cases h1 : relof M a c = 0
      · have e1 : (relof M a c != 0) = false := by simp [h1]
        have hr : decide (MayP M a b c) = false := by rw [hl']; simp [MayR, h1]
        clear hl' h1
        go_wp2_with (first | (go_at_call 17; go_must (refine (iRelOf_any _ M _ _ _ hM (by omega) (by omega) (by omega) (by omega)).mono ?_); rintro e wx ⟨rfl, hbx⟩; replace hF := hF.below hbx; replace hM := hM.below hbx; clear hbx) | (go_at_call 18; go_must (refine (sRelOf_any _ M _ _ _ hM).mono ?_); rintro e wx ⟨rfl, hbx⟩; replace hF := hF.below hbx; replace hM := hM.below hbx; clear hbx) | (go_at_call 15; go_must (refine (sRelsOk_any _ M _ hM).mono ?_); rintro e wx ⟨rfl, hbx⟩; replace hF := hF.below hbx; replace hM := hM.below hbx; clear hbx) | (go_at_call 20; go_must (refine (iRelMay_any _ M _ _ _ _ hM (by omega) (by omega) (by omega) (by omega) (by omega) (by omega)).mono ?_); rintro e wx ⟨rfl, hbx⟩; replace hF := hF.below hbx; replace hM := hM.below hbx; clear hbx) | (go_at_call 21; go_must (refine (sRelMay_any _ M _ _ _ _ hM).mono ?_); rintro e wx ⟨rfl, hbx⟩; replace hF := hF.below hbx; replace hM := hM.below hbx; clear hbx))
        go_ret
        exact ⟨by simp, hF.kp⟩
      have e1 : (relof M a c != 0) = true := by simp [h1]
      by_cases h2 : b = 0
      · have e2 : (b == 0) = true := by simp [h2]
        have hr : decide (MayP M a b c) = true := by rw [hl']; simp [MayR, h1, h2]
        clear hl' h1 h2
        go_wp2_with (first | (go_at_call 17; go_must (refine (iRelOf_any _ M _ _ _ hM (by omega) (by omega) (by omega) (by omega)).mono ?_); rintro e wx ⟨rfl, hbx⟩; replace hF := hF.below hbx; replace hM := hM.below hbx; clear hbx) | (go_at_call 18; go_must (refine (sRelOf_any _ M _ _ _ hM).mono ?_); rintro e wx ⟨rfl, hbx⟩; replace hF := hF.below hbx; replace hM := hM.below hbx; clear hbx) | (go_at_call 15; go_must (refine (sRelsOk_any _ M _ hM).mono ?_); rintro e wx ⟨rfl, hbx⟩; replace hF := hF.below hbx; replace hM := hM.below hbx; clear hbx) | (go_at_call 20; go_must (refine (iRelMay_any _ M _ _ _ _ hM (by omega) (by omega) (by omega) (by omega) (by omega) (by omega)).mono ?_); rintro e wx ⟨rfl, hbx⟩; replace hF := hF.below hbx; replace hM := hM.below hbx; clear hbx) | (go_at_call 21; go_must (refine (sRelMay_any _ M _ _ _ _ hM).mono ?_); rintro e wx ⟨rfl, hbx⟩; replace hF := hF.below hbx; replace hM := hM.below hbx; clear hbx))
        go_ret
        exact ⟨by simp, hF.kp⟩
      have e2 : (b == 0) = false := by simp [h2]
      by_cases h3 : relof M a b = 1
      · have e3 : (relof M a b == 1) = true := by simp [h3]
        have hr : decide (MayP M a b c) = true := by rw [hl']; simp [MayR, h1, h3]
        clear hl' h1 h2 h3
        go_wp2_with (first | (go_at_call 17; go_must (refine (iRelOf_any _ M _ _ _ hM (by omega) (by omega) (by omega) (by omega)).mono ?_); rintro e wx ⟨rfl, hbx⟩; replace hF := hF.below hbx; replace hM := hM.below hbx; clear hbx) | (go_at_call 18; go_must (refine (sRelOf_any _ M _ _ _ hM).mono ?_); rintro e wx ⟨rfl, hbx⟩; replace hF := hF.below hbx; replace hM := hM.below hbx; clear hbx) | (go_at_call 15; go_must (refine (sRelsOk_any _ M _ hM).mono ?_); rintro e wx ⟨rfl, hbx⟩; replace hF := hF.below hbx; replace hM := hM.below hbx; clear hbx) | (go_at_call 20; go_must (refine (iRelMay_any _ M _ _ _ _ hM (by omega) (by omega) (by omega) (by omega) (by omega) (by omega)).mono ?_); rintro e wx ⟨rfl, hbx⟩; replace hF := hF.below hbx; replace hM := hM.below hbx; clear hbx) | (go_at_call 21; go_must (refine (sRelMay_any _ M _ _ _ _ hM).mono ?_); rintro e wx ⟨rfl, hbx⟩; replace hF := hF.below hbx; replace hM := hM.below hbx; clear hbx))
        go_ret
        exact ⟨by simp, hF.kp⟩
      have e3 : (relof M a b == 1) = false := by simp [h3]
      by_cases h4 : relof M a c = 1
      · have e4 : (relof M a c == 1) = true := by simp [h4]
        have hr : decide (MayP M a b c) = true := by rw [hl']; simp [MayR, h4]
        clear hl' h1 h2 h3 h4
        go_wp2_with (first | (go_at_call 17; go_must (refine (iRelOf_any _ M _ _ _ hM (by omega) (by omega) (by omega) (by omega)).mono ?_); rintro e wx ⟨rfl, hbx⟩; replace hF := hF.below hbx; replace hM := hM.below hbx; clear hbx) | (go_at_call 18; go_must (refine (sRelOf_any _ M _ _ _ hM).mono ?_); rintro e wx ⟨rfl, hbx⟩; replace hF := hF.below hbx; replace hM := hM.below hbx; clear hbx) | (go_at_call 15; go_must (refine (sRelsOk_any _ M _ hM).mono ?_); rintro e wx ⟨rfl, hbx⟩; replace hF := hF.below hbx; replace hM := hM.below hbx; clear hbx) | (go_at_call 20; go_must (refine (iRelMay_any _ M _ _ _ _ hM (by omega) (by omega) (by omega) (by omega) (by omega) (by omega)).mono ?_); rintro e wx ⟨rfl, hbx⟩; replace hF := hF.below hbx; replace hM := hM.below hbx; clear hbx) | (go_at_call 21; go_must (refine (sRelMay_any _ M _ _ _ _ hM).mono ?_); rintro e wx ⟨rfl, hbx⟩; replace hF := hF.below hbx; replace hM := hM.below hbx; clear hbx))
        go_ret
        exact ⟨by simp, hF.kp⟩
      · have e4 : (relof M a c == 1) = false := by simp [h4]
        have hr : decide (MayP M a b c) = false := by rw [hl']; simp [MayR, h2, h3, h4]
        clear hl' h1 h2 h3 h4
        go_wp2_with (first | (go_at_call 17; go_must (refine (iRelOf_any _ M _ _ _ hM (by omega) (by omega) (by omega) (by omega)).mono ?_); rintro e wx ⟨rfl, hbx⟩; replace hF := hF.below hbx; replace hM := hM.below hbx; clear hbx) | (go_at_call 18; go_must (refine (sRelOf_any _ M _ _ _ hM).mono ?_); rintro e wx ⟨rfl, hbx⟩; replace hF := hF.below hbx; replace hM := hM.below hbx; clear hbx) | (go_at_call 15; go_must (refine (sRelsOk_any _ M _ hM).mono ?_); rintro e wx ⟨rfl, hbx⟩; replace hF := hF.below hbx; replace hM := hM.below hbx; clear hbx) | (go_at_call 20; go_must (refine (iRelMay_any _ M _ _ _ _ hM (by omega) (by omega) (by omega) (by omega) (by omega) (by omega)).mono ?_); rintro e wx ⟨rfl, hbx⟩; replace hF := hF.below hbx; replace hM := hM.below hbx; clear hbx) | (go_at_call 21; go_must (refine (sRelMay_any _ M _ _ _ _ hM).mono ?_); rintro e wx ⟨rfl, hbx⟩; replace hF := hF.below hbx; replace hM := hM.below hbx; clear hbx))
        go_ret
        exact ⟨by simp, hF.kp⟩
  · have dp : decide (RelsP M) = false := by simp [hp]
    clear hp
    go_wp2_with (first | (go_at_call 17; go_must (refine (iRelOf_any _ M _ _ _ hM (by omega) (by omega) (by omega) (by omega)).mono ?_); rintro e wx ⟨rfl, hbx⟩; replace hF := hF.below hbx; replace hM := hM.below hbx; clear hbx) | (go_at_call 18; go_must (refine (sRelOf_any _ M _ _ _ hM).mono ?_); rintro e wx ⟨rfl, hbx⟩; replace hF := hF.below hbx; replace hM := hM.below hbx; clear hbx) | (go_at_call 15; go_must (refine (sRelsOk_any _ M _ hM).mono ?_); rintro e wx ⟨rfl, hbx⟩; replace hF := hF.below hbx; replace hM := hM.below hbx; clear hbx) | (go_at_call 20; go_must (refine (iRelMay_any _ M _ _ _ _ hM (by omega) (by omega) (by omega) (by omega) (by omega) (by omega)).mono ?_); rintro e wx ⟨rfl, hbx⟩; replace hF := hF.below hbx; replace hM := hM.below hbx; clear hbx) | (go_at_call 21; go_must (refine (sRelMay_any _ M _ _ _ _ hM).mono ?_); rintro e wx ⟨rfl, hbx⟩; replace hF := hF.below hbx; replace hM := hM.below hbx; clear hbx))
    go_ret
    exact ⟨by simp, hF.kp⟩

set_option maxHeartbeats 1000000 in
theorem FnRelTell_walk (a0 : Option Addr) (n0 c0 : Nat) (w : World) (h0 : Given w (.slice a0 n0 c0)) :
    Calls Try.prog 6 #[.slice a0 n0 c0] w fun e w' => e = .returned (.bool true) ∧ Below w.heap.size w w' := by
  by_cases hn0 : 1048576 < n0
  · have e0 : decide (1048576 < (n0 : Int)) = true := by simp; omega
    go_enter Try.func6, Try.ntmps6
    go_wp2
    go_ret
    exact ⟨rfl, Below.refl _ _⟩
  have e0 : decide (1048576 < (n0 : Int)) = false := by simp; omega
  have hF := Fb.start w
  go_enter Try.func6, Try.ntmps6
  go_wp2_with fail
  refine (drawRelMay_any _ _ h0).mono ?_; rintro e w1 ⟨v, M, a, b, c, rfl, hM, hSq, a1, a2, b1, b2, c1, c2, hb1⟩
  replace hF := hF.below hb1
  clear hb1 h0
  obtain ⟨ao, n, cap, rfl, hn, hn63⟩ := hM.sl
  have hN := hn.out
  have hn5 := hSq.2.1
  clear hSq
  by_cases hp : RelsP M
  · have dp : decide (RelsP M) = true := by simp [hp]
    by_cases han : (n : Int) < a
    · have dan : decide ((n : Int) < a) = true := by simp [han]
      clear hp han
      go_wp2_with (first | (go_at_call 17; go_must (refine (iRelOf_any _ M _ _ _ hM (by omega) (by omega) (by omega) (by omega)).mono ?_); rintro e wx ⟨rfl, hbx⟩; replace hF := hF.below hbx; replace hM := hM.below hbx; clear hbx) | (go_at_call 18; go_must (refine (sRelOf_any _ M _ _ _ hM).mono ?_); rintro e wx ⟨rfl, hbx⟩; replace hF := hF.below hbx; replace hM := hM.below hbx; clear hbx) | (go_at_call 15; go_must (refine (sRelsOk_any _ M _ hM).mono ?_); rintro e wx ⟨rfl, hbx⟩; replace hF := hF.below hbx; replace hM := hM.below hbx; clear hbx) | (go_at_call 20; go_must (refine (iRelMay_any _ M _ _ _ _ hM (by omega) (by omega) (by omega) (by omega) (by omega) (by omega)).mono ?_); rintro e wx ⟨rfl, hbx⟩; replace hF := hF.below hbx; replace hM := hM.below hbx; clear hbx) | (go_at_call 21; go_must (refine (sRelMay_any _ M _ _ _ _ hM).mono ?_); rintro e wx ⟨rfl, hbx⟩; replace hF := hF.below hbx; replace hM := hM.below hbx; clear hbx))
      go_ret
      exact ⟨by simp, hF.kp⟩
    · have dan : decide ((n : Int) < a) = false := by simp; omega
      have hl' : decide (MayP M a b c) = decide (MayR M a b c) := decide_eq_decide.2 (may_law hp (h := a) (o := b) (t := c) (by omega) (by omega) (by omega) (by omega) (by omega) (by omega))
      clear hp han
      by_cases h1 : relof M a c = 0
      · have e1 : (relof M a c != 1) = true := by simp [h1]
        have e2 : (relof M a c != 0) = false := by simp [h1]
        have hr : decide (MayP M a b c) = false := by rw [hl']; simp [MayR, h1]
        clear hl' h1
        go_wp2_with (first | (go_at_call 17; go_must (refine (iRelOf_any _ M _ _ _ hM (by omega) (by omega) (by omega) (by omega)).mono ?_); rintro e wx ⟨rfl, hbx⟩; replace hF := hF.below hbx; replace hM := hM.below hbx; clear hbx) | (go_at_call 18; go_must (refine (sRelOf_any _ M _ _ _ hM).mono ?_); rintro e wx ⟨rfl, hbx⟩; replace hF := hF.below hbx; replace hM := hM.below hbx; clear hbx) | (go_at_call 15; go_must (refine (sRelsOk_any _ M _ hM).mono ?_); rintro e wx ⟨rfl, hbx⟩; replace hF := hF.below hbx; replace hM := hM.below hbx; clear hbx) | (go_at_call 20; go_must (refine (iRelMay_any _ M _ _ _ _ hM (by omega) (by omega) (by omega) (by omega) (by omega) (by omega)).mono ?_); rintro e wx ⟨rfl, hbx⟩; replace hF := hF.below hbx; replace hM := hM.below hbx; clear hbx) | (go_at_call 21; go_must (refine (sRelMay_any _ M _ _ _ _ hM).mono ?_); rintro e wx ⟨rfl, hbx⟩; replace hF := hF.below hbx; replace hM := hM.below hbx; clear hbx))
        go_ret
        exact ⟨by simp, hF.kp⟩
      have e1 : (relof M a c != 0) = true := by simp [h1]
      by_cases h4 : relof M a c = 1
      · have e4 : (relof M a c != 1) = false := by simp [h4]
        have hr : decide (MayP M a b c) = true := by rw [hl']; simp [MayR, h4]
        clear hl' h1 h4
        go_wp2_with (first | (go_at_call 17; go_must (refine (iRelOf_any _ M _ _ _ hM (by omega) (by omega) (by omega) (by omega)).mono ?_); rintro e wx ⟨rfl, hbx⟩; replace hF := hF.below hbx; replace hM := hM.below hbx; clear hbx) | (go_at_call 18; go_must (refine (sRelOf_any _ M _ _ _ hM).mono ?_); rintro e wx ⟨rfl, hbx⟩; replace hF := hF.below hbx; replace hM := hM.below hbx; clear hbx) | (go_at_call 15; go_must (refine (sRelsOk_any _ M _ hM).mono ?_); rintro e wx ⟨rfl, hbx⟩; replace hF := hF.below hbx; replace hM := hM.below hbx; clear hbx) | (go_at_call 20; go_must (refine (iRelMay_any _ M _ _ _ _ hM (by omega) (by omega) (by omega) (by omega) (by omega) (by omega)).mono ?_); rintro e wx ⟨rfl, hbx⟩; replace hF := hF.below hbx; replace hM := hM.below hbx; clear hbx) | (go_at_call 21; go_must (refine (sRelMay_any _ M _ _ _ _ hM).mono ?_); rintro e wx ⟨rfl, hbx⟩; replace hF := hF.below hbx; replace hM := hM.below hbx; clear hbx))
        go_ret
        exact ⟨by simp, hF.kp⟩
      · have e4 : (relof M a c != 1) = true := by simp [h4]
        clear hl' h1 h4
        go_wp2_with (first | (go_at_call 17; go_must (refine (iRelOf_any _ M _ _ _ hM (by omega) (by omega) (by omega) (by omega)).mono ?_); rintro e wx ⟨rfl, hbx⟩; replace hF := hF.below hbx; replace hM := hM.below hbx; clear hbx) | (go_at_call 18; go_must (refine (sRelOf_any _ M _ _ _ hM).mono ?_); rintro e wx ⟨rfl, hbx⟩; replace hF := hF.below hbx; replace hM := hM.below hbx; clear hbx) | (go_at_call 15; go_must (refine (sRelsOk_any _ M _ hM).mono ?_); rintro e wx ⟨rfl, hbx⟩; replace hF := hF.below hbx; replace hM := hM.below hbx; clear hbx) | (go_at_call 20; go_must (refine (iRelMay_any _ M _ _ _ _ hM (by omega) (by omega) (by omega) (by omega) (by omega) (by omega)).mono ?_); rintro e wx ⟨rfl, hbx⟩; replace hF := hF.below hbx; replace hM := hM.below hbx; clear hbx) | (go_at_call 21; go_must (refine (sRelMay_any _ M _ _ _ _ hM).mono ?_); rintro e wx ⟨rfl, hbx⟩; replace hF := hF.below hbx; replace hM := hM.below hbx; clear hbx))
        go_ret
        exact ⟨by simp, hF.kp⟩
  · have dp : decide (RelsP M) = false := by simp [hp]
    clear hp
    go_wp2_with (first | (go_at_call 17; go_must (refine (iRelOf_any _ M _ _ _ hM (by omega) (by omega) (by omega) (by omega)).mono ?_); rintro e wx ⟨rfl, hbx⟩; replace hF := hF.below hbx; replace hM := hM.below hbx; clear hbx) | (go_at_call 18; go_must (refine (sRelOf_any _ M _ _ _ hM).mono ?_); rintro e wx ⟨rfl, hbx⟩; replace hF := hF.below hbx; replace hM := hM.below hbx; clear hbx) | (go_at_call 15; go_must (refine (sRelsOk_any _ M _ hM).mono ?_); rintro e wx ⟨rfl, hbx⟩; replace hF := hF.below hbx; replace hM := hM.below hbx; clear hbx) | (go_at_call 20; go_must (refine (iRelMay_any _ M _ _ _ _ hM (by omega) (by omega) (by omega) (by omega) (by omega) (by omega)).mono ?_); rintro e wx ⟨rfl, hbx⟩; replace hF := hF.below hbx; replace hM := hM.below hbx; clear hbx) | (go_at_call 21; go_must (refine (sRelMay_any _ M _ _ _ _ hM).mono ?_); rintro e wx ⟨rfl, hbx⟩; replace hF := hF.below hbx; replace hM := hM.below hbx; clear hbx))
    go_ret
    exact ⟨by simp, hF.kp⟩

set_option maxHeartbeats 1000000 in
theorem FnValley_walk (a0 : Option Addr) (n0 c0 : Nat) (w : World) (h0 : Given w (.slice a0 n0 c0)) :
    Calls Try.prog 7 #[.slice a0 n0 c0] w fun e w' => e = .returned (.bool true) ∧ Below w.heap.size w w' := by
  by_cases hn0 : 1048576 < n0
  · have e0 : decide (1048576 < (n0 : Int)) = true := by simp; omega
    go_enter Try.func7, Try.ntmps7
    go_wp2
    go_ret
    exact ⟨rfl, Below.refl _ _⟩
  have e0 : decide (1048576 < (n0 : Int)) = false := by simp; omega
  have hF := Fb.start w
  go_enter Try.func7, Try.ntmps7
  go_wp2_with fail
  refine (drawRelMay_any _ _ h0).mono ?_; rintro e w1 ⟨v, M, a, b, c, rfl, hM, hSq, a1, a2, b1, b2, c1, c2, hb1⟩
  replace hF := hF.below hb1
  clear hb1 h0
  have hn5 := hSq.2.1
  clear hSq
  by_cases h2 : b = 0
  · have e2 : (b == 0) = true := by simp [h2]
    clear h2
    go_wp2_with (first | (go_at_call 17; go_must (refine (iRelOf_any _ M _ _ _ hM (by omega) (by omega) (by omega) (by omega)).mono ?_); rintro e wx ⟨rfl, hbx⟩; replace hF := hF.below hbx; replace hM := hM.below hbx; clear hbx) | (go_at_call 18; go_must (refine (sRelOf_any _ M _ _ _ hM).mono ?_); rintro e wx ⟨rfl, hbx⟩; replace hF := hF.below hbx; replace hM := hM.below hbx; clear hbx) | (go_at_call 15; go_must (refine (sRelsOk_any _ M _ hM).mono ?_); rintro e wx ⟨rfl, hbx⟩; replace hF := hF.below hbx; replace hM := hM.below hbx; clear hbx) | (go_at_call 20; go_must (refine (iRelMay_any _ M _ _ _ _ hM (by omega) (by omega) (by omega) (by omega) (by omega) (by omega)).mono ?_); rintro e wx ⟨rfl, hbx⟩; replace hF := hF.below hbx; replace hM := hM.below hbx; clear hbx) | (go_at_call 21; go_must (refine (sRelMay_any _ M _ _ _ _ hM).mono ?_); rintro e wx ⟨rfl, hbx⟩; replace hF := hF.below hbx; replace hM := hM.below hbx; clear hbx))
    go_ret
    exact ⟨by simp, hF.kp⟩
  have e2 : (b == 0) = false := by simp [h2]
  by_cases hm : MayP M a b c
  · have dm : decide (MayP M a b c) = true := by simp [hm]
    have hr := ((mayP_r M a b c).1 hm).2.2.2.2.2
    by_cases h3 : relof M a b = 1
    · have e3 : (relof M a b == 1) = true := by simp [h3]
      clear h2 hm hr h3
      go_wp2_with (first | (go_at_call 17; go_must (refine (iRelOf_any _ M _ _ _ hM (by omega) (by omega) (by omega) (by omega)).mono ?_); rintro e wx ⟨rfl, hbx⟩; replace hF := hF.below hbx; replace hM := hM.below hbx; clear hbx) | (go_at_call 18; go_must (refine (sRelOf_any _ M _ _ _ hM).mono ?_); rintro e wx ⟨rfl, hbx⟩; replace hF := hF.below hbx; replace hM := hM.below hbx; clear hbx) | (go_at_call 15; go_must (refine (sRelsOk_any _ M _ hM).mono ?_); rintro e wx ⟨rfl, hbx⟩; replace hF := hF.below hbx; replace hM := hM.below hbx; clear hbx) | (go_at_call 20; go_must (refine (iRelMay_any _ M _ _ _ _ hM (by omega) (by omega) (by omega) (by omega) (by omega) (by omega)).mono ?_); rintro e wx ⟨rfl, hbx⟩; replace hF := hF.below hbx; replace hM := hM.below hbx; clear hbx) | (go_at_call 21; go_must (refine (sRelMay_any _ M _ _ _ _ hM).mono ?_); rintro e wx ⟨rfl, hbx⟩; replace hF := hF.below hbx; replace hM := hM.below hbx; clear hbx))
      go_ret
      exact ⟨by simp, hF.kp⟩
    · have e3 : (relof M a b == 1) = false := by simp [h3]
      have h4 : relof M a c = 1 := by
        rcases hr with h | h | h
        · exact (h2 h).elim
        · exact (h3 h).elim
        · exact h
      have e4 : (relof M a c == 1) = true := by simp [h4]
      clear h2 hm hr h3 h4
      go_wp2_with (first | (go_at_call 17; go_must (refine (iRelOf_any _ M _ _ _ hM (by omega) (by omega) (by omega) (by omega)).mono ?_); rintro e wx ⟨rfl, hbx⟩; replace hF := hF.below hbx; replace hM := hM.below hbx; clear hbx) | (go_at_call 18; go_must (refine (sRelOf_any _ M _ _ _ hM).mono ?_); rintro e wx ⟨rfl, hbx⟩; replace hF := hF.below hbx; replace hM := hM.below hbx; clear hbx) | (go_at_call 15; go_must (refine (sRelsOk_any _ M _ hM).mono ?_); rintro e wx ⟨rfl, hbx⟩; replace hF := hF.below hbx; replace hM := hM.below hbx; clear hbx) | (go_at_call 20; go_must (refine (iRelMay_any _ M _ _ _ _ hM (by omega) (by omega) (by omega) (by omega) (by omega) (by omega)).mono ?_); rintro e wx ⟨rfl, hbx⟩; replace hF := hF.below hbx; replace hM := hM.below hbx; clear hbx) | (go_at_call 21; go_must (refine (sRelMay_any _ M _ _ _ _ hM).mono ?_); rintro e wx ⟨rfl, hbx⟩; replace hF := hF.below hbx; replace hM := hM.below hbx; clear hbx))
      go_ret
      exact ⟨by simp, hF.kp⟩
  · have dm : decide (MayP M a b c) = false := by simp [hm]
    clear h2 hm
    go_wp2_with (first | (go_at_call 17; go_must (refine (iRelOf_any _ M _ _ _ hM (by omega) (by omega) (by omega) (by omega)).mono ?_); rintro e wx ⟨rfl, hbx⟩; replace hF := hF.below hbx; replace hM := hM.below hbx; clear hbx) | (go_at_call 18; go_must (refine (sRelOf_any _ M _ _ _ hM).mono ?_); rintro e wx ⟨rfl, hbx⟩; replace hF := hF.below hbx; replace hM := hM.below hbx; clear hbx) | (go_at_call 15; go_must (refine (sRelsOk_any _ M _ hM).mono ?_); rintro e wx ⟨rfl, hbx⟩; replace hF := hF.below hbx; replace hM := hM.below hbx; clear hbx) | (go_at_call 20; go_must (refine (iRelMay_any _ M _ _ _ _ hM (by omega) (by omega) (by omega) (by omega) (by omega) (by omega)).mono ?_); rintro e wx ⟨rfl, hbx⟩; replace hF := hF.below hbx; replace hM := hM.below hbx; clear hbx) | (go_at_call 21; go_must (refine (sRelMay_any _ M _ _ _ _ hM).mono ?_); rintro e wx ⟨rfl, hbx⟩; replace hF := hF.below hbx; replace hM := hM.below hbx; clear hbx))
    go_ret
    exact ⟨by simp, hF.kp⟩
end Go.Proofs.Ytfckmgeakdbdfaa
