/- FnPathTexts: the walk. -/
import Derived.Test.YtgegmampnpgcaaaDoorPv
import Derived.Test.YtgegmampnpgcaaaDoorEg
import Derived.Test.YtgegmampnpgcaaaDoorEi
import Derived.Test.YtgegmampnpgcaaaDoorLi
set_option linter.unusedSimpArgs false
set_option linter.unusedVariables false
namespace Go.Proofs.YtgegmampnpgcaaaDoor
open Go.RowKit

set_option maxHeartbeats 4000000 in
theorem FnPathTexts_walk (a0 : Option Addr) (n0 c0 : Nat) (a : Addr) (w : World) (h0 : Given w (.slice a0 n0 c0)) (hE : EPath w a) (htab : Tab w) :
    Calls Tryd.prog 6 #[.slice a0 n0 c0] w fun e w' => e = .returned (.bool true) ∧ Below w.heap.size w w' := by
  by_cases hn0 : 1048576 < n0
  · have e0 : decide (1048576 < (n0 : Int)) = true := by simp; omega
    go_enter Tryd.func6, Tryd.ntmps6
    go_wp2
    go_ret
    exact ⟨rfl, Below.refl _ _⟩
  have e0 : decide (1048576 < (n0 : Int)) = false := by simp; omega
  have hF := Fb.start w
  have HT := Lib.hid htab
  clear htab
  go_enter Tryd.func6, Tryd.ntmps6
  go_wp2_with fail
  refine (drawPathCmp_any _ _ h0).mono ?_; rintro e w1 ⟨v1, v2, L, K, rfl, h1, h2, -, -, hb1⟩
  replace hF := hF.below hb1
  replace hE := hE.below hb1
  clear hb1 h0
  obtain ⟨N, hN⟩ : ∃ N, PC L K = N := ⟨_, rfl⟩
  have hNN : (N != N) = false := by simp
  have hNe : (N == N) = true := by simp
  have tok1 : True := trivial
  have tok2 : True := trivial
  by_cases p1 : POk L
  · have d1 : decide (POk L) = true := by simp [p1]
    by_cases p2 : POk K
    · have d2 : decide (POk K) = true := by simp [p2]
      obtain ⟨q, hq⟩ : ∃ q, decide (L = K) = q := ⟨_, rfl⟩
      have hqq : (q == q) = true := by simp
      have hpt : ((PT L).toList == (PT K).toList) = q := by
        rw [← hq, ByteArray.toList_eq, ByteArray.toList_eq, PT_list, PT_list]
        by_cases e : L = K
        · subst e; simp
        · have hne : ptl L ≠ ptl K := fun g => e (ptl_inj p1 p2 g)
          rw [decide_eq_false e]; simpa using hne
      clear p1 p2
      go_wp2_with (first | (go_at_call 27; go_must (refine (iPathCmp_any _ _ L K a _ h1.1 h2.1 hE).mono ?_); rintro e wx ⟨rfl, hbx⟩; replace hF := hF.below hbx; replace h1 := It.below h1 hbx; replace h2 := It.below h2 hbx; replace hE := hE.below hbx; clear hbx) | (go_at_call 28; go_must (refine (sPathCmp_any _ _ L K _ h1.1 h2.1).mono ?_); rintro e wx ⟨rfl, hbx⟩; replace hF := hF.below hbx; replace h1 := It.below h1 hbx; replace h2 := It.below h2 hbx; replace hE := hE.below hbx; clear hbx) | (go_at_call 20; clear tok1; go_must (refine (sPathOk_any _ L _ h1.1).mono ?_); rintro e wx ⟨rfl, hbx⟩; replace hF := hF.below hbx; replace h1 := It.below h1 hbx; replace h2 := It.below h2 hbx; replace hE := hE.below hbx; clear hbx) | (go_at_call 20; go_must (refine (sPathOk_any _ K _ h2.1).mono ?_); rintro e wx ⟨rfl, hbx⟩; replace hF := hF.below hbx; replace h1 := It.below h1 hbx; replace h2 := It.below h2 hbx; replace hE := hE.below hbx; clear hbx) | (go_at_call 22; clear tok2; go_must (refine (iPathText_any _ L a _ h1 hE (tab_below HT.out hF.kp)).mono ?_); rintro e wx ⟨rfl, hbx⟩; replace hF := hF.below hbx; replace h1 := It.below h1 hbx; replace h2 := It.below h2 hbx; replace hE := hE.below hbx; clear hbx) | (go_at_call 22; go_must (refine (iPathText_any _ K a _ h2 hE (tab_below HT.out hF.kp)).mono ?_); rintro e wx ⟨rfl, hbx⟩; replace hF := hF.below hbx; replace h1 := It.below h1 hbx; replace h2 := It.below h2 hbx; replace hE := hE.below hbx; clear hbx) | (go_at_call 25; go_must (refine (lyInts_any _ _ L K _ h1.1 h2.1).mono ?_); rintro e wx ⟨rfl, hbx⟩; replace hF := hF.below hbx; replace h1 := It.below h1 hbx; replace h2 := It.below h2 hbx; replace hE := hE.below hbx; clear hbx))
      go_ret
      exact ⟨by simp [hqq], hF.kp⟩
    · have d2 : decide (POk K) = false := by simp [p2]
      clear p1 p2
      go_wp2_with (first | (go_at_call 27; go_must (refine (iPathCmp_any _ _ L K a _ h1.1 h2.1 hE).mono ?_); rintro e wx ⟨rfl, hbx⟩; replace hF := hF.below hbx; replace h1 := It.below h1 hbx; replace h2 := It.below h2 hbx; replace hE := hE.below hbx; clear hbx) | (go_at_call 28; go_must (refine (sPathCmp_any _ _ L K _ h1.1 h2.1).mono ?_); rintro e wx ⟨rfl, hbx⟩; replace hF := hF.below hbx; replace h1 := It.below h1 hbx; replace h2 := It.below h2 hbx; replace hE := hE.below hbx; clear hbx) | (go_at_call 20; clear tok1; go_must (refine (sPathOk_any _ L _ h1.1).mono ?_); rintro e wx ⟨rfl, hbx⟩; replace hF := hF.below hbx; replace h1 := It.below h1 hbx; replace h2 := It.below h2 hbx; replace hE := hE.below hbx; clear hbx) | (go_at_call 20; go_must (refine (sPathOk_any _ K _ h2.1).mono ?_); rintro e wx ⟨rfl, hbx⟩; replace hF := hF.below hbx; replace h1 := It.below h1 hbx; replace h2 := It.below h2 hbx; replace hE := hE.below hbx; clear hbx))
      go_ret
      exact ⟨rfl, hF.kp⟩
  · have d1 : decide (POk L) = false := by simp [p1]
    clear p1
    go_wp2_with (first | (go_at_call 27; go_must (refine (iPathCmp_any _ _ L K a _ h1.1 h2.1 hE).mono ?_); rintro e wx ⟨rfl, hbx⟩; replace hF := hF.below hbx; replace h1 := It.below h1 hbx; replace h2 := It.below h2 hbx; replace hE := hE.below hbx; clear hbx) | (go_at_call 28; go_must (refine (sPathCmp_any _ _ L K _ h1.1 h2.1).mono ?_); rintro e wx ⟨rfl, hbx⟩; replace hF := hF.below hbx; replace h1 := It.below h1 hbx; replace h2 := It.below h2 hbx; replace hE := hE.below hbx; clear hbx) | (go_at_call 20; go_must (refine (sPathOk_any _ L _ h1.1).mono ?_); rintro e wx ⟨rfl, hbx⟩; replace hF := hF.below hbx; replace h1 := It.below h1 hbx; replace h2 := It.below h2 hbx; replace hE := hE.below hbx; clear hbx))
    go_ret
    exact ⟨rfl, hF.kp⟩
end Go.Proofs.YtgegmampnpgcaaaDoor
