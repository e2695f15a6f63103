/- FnFindAll: the walk. -/
import Derived.Test.YtbhenfegklgkoaaUc
set_option linter.unusedSimpArgs false
set_option linter.unusedVariables false
namespace Go.Proofs.Ytbhenfegklgkoaa
open Go.RowKit

set_option maxHeartbeats 4000000 in
set_option maxRecDepth 100000 in
theorem FnFindAll_walk (a0 : Option Addr) (n0 c0 : Nat) (w : World) (h0 : Given w (.slice a0 n0 c0)) :
    Calls Try.prog 12 #[.slice a0 n0 c0] w fun e w' => e = .returned (.bool true) ∧ Below w.heap.size w w' := by
  by_cases hn0 : 1048576 < n0
  · have e0 : decide (1048576 < (n0 : Int)) = true := by simp; omega
    go_enter Try.func12, Try.ntmps12
    go_wp2
    go_ret
    exact ⟨rfl, Below.refl _ _⟩
  have e0 : decide (1048576 < (n0 : Int)) = false := by simp; omega
  have hF := Fb.start w
  go_enter Try.func12, Try.ntmps12
  go_wp2_with fail
  refine (drawTableFind_any _ _ h0).mono ?_; rintro e w1 ⟨v, T, a, rfl, hV, hT20, ha0, ha1, hb1⟩
  replace hF := hF.below hb1
  clear hb1 h0
  obtain ⟨N, hN⟩ : ∃ N, tfind T a = N := ⟨_, rfl⟩
  have dNN : (N != N) = false := by simp
  obtain ⟨ao, n, c, rfl, hn⟩ := hV.sl
  by_cases h1 : TOk T
  · have d1 : decide (TOk T) = true := by simp [h1]
    have HT := Lib.hid h1
    clear h1
    go_wp2_with (first | (go_at_call 19; go_must (refine (iTableFind_any _ T _ _ hV.1).mono ?_); rintro e wx ⟨rfl, hbx⟩; replace hF := hF.below hbx; replace hV := hV.below hbx; clear hbx) | (go_at_call 20; go_must (refine (sTableFind_any _ T _ _ hV.1).mono ?_); rintro e wx ⟨rfl, hbx⟩; replace hF := hF.below hbx; replace hV := hV.below hbx; clear hbx) | (go_at_call 17; go_must (refine (sTableOk_any _ T _ hV.1).mono ?_); rintro e wx ⟨rfl, hbx⟩; replace hF := hF.below hbx; replace hV := hV.below hbx; clear hbx))
    clear hN
    by_cases hl : 12 < (ins (0, 0, 9) T).length
    · have hX : tput T (0, 0, 9) = (T, false) := by rw [tput_yes HT.out ep_0, if_pos hl]
      obtain rfl : n = 12 := by have := ins_len (0, 0, 9) T; have := HT.out.2; have := hn.out; omega
      clear hl
      have c1 := iTablePut_any _ T 0 0 9 _ hV
      rw [hX] at c1
      refine c1.mono ?_; rintro e w3 ⟨vx2, rfl, -, hb3⟩
      clear c1 hX
      replace hF := hF.below hb3
      clear hb3
      go_wp2
      go_ret
      exact ⟨by simp, hF.kp⟩
    · have hX : tput T (0, 0, 9) = (ins (0, 0, 9) T, true) := by rw [tput_yes HT.out ep_0, if_neg hl]
      have hres0 := Lib.hid (fun a (ha : a < 256) => fnd_all HT.out (by omega) ha)
      have hXok : Hid (TOk (ins (0, 0, 9) T)) := ins_tok HT.out ep_0 (by omega)
      clear hl
      have c1 := iTablePut_any _ T 0 0 9 _ hV
      rw [hX] at c1
      obtain ⟨X, hXe⟩ : ∃ X, ins (0, 0, 9) T = X := ⟨_, rfl⟩
      rw [hXe] at c1 hXok
      have hres1 : Hid (∀ a, a < 256 → fnd X a = if fnd (drp T (0, 0)) a = 0 then 9 else fnd (drp T (0, 0)) a) := by
        show ∀ a, _
        intro a ha; rw [← hXe]; exact hres0.out a ha
      refine c1.mono ?_; rintro e w3 ⟨vx2, rfl, hO2, hb3⟩
      clear c1 hX hres0 hXe
      replace hF := hF.below hb3
      replace hV := hV.below hb3
      have hU := hO2.tb
      clear hb3 hO2
      go_wp2_with fail
      have c1 := iTableDrop_any _ T 0 0 _ hV
      rw [tdrp_yes HT.out (show ROk 0 0 by decide)] at c1
      have hDok : Hid (TOk (drp T (0, 0))) := drp_tok HT.out _
      obtain ⟨D, hD⟩ : ∃ D, drp T (0, 0) = D := ⟨_, rfl⟩
      rw [hD] at c1 hDok hres1
      refine c1.mono ?_; rintro e wa ⟨vx3, rfl, hO3, hb3⟩
      clear c1 hD
      replace hF := hF.below hb3
      replace hU := hU.below hb3
      have HU := Lib.hid hU
      have HD := Lib.hid hO3.tb
      have HF := Lib.hid hF
      clear hb3 hO3 hV hU hF
      go_wp2
      go_loopw [10] (fun s10 wr => ∃ a : Nat, a ≤ 256 ∧ s10 = .int .i64 a ∧ Fb wa wr []) (fun s10 _ => 256 - (intOf s10).toNat)
      case atStart => exact ⟨0, by omega, rfl, Fb.start wa⟩
      case round =>
        obtain ⟨a, ha, rfl, hF⟩ := hrel
        by_cases hlt : a < 256
        · have hle : (a : Int) ≤ 255 := by omega
          have hp := fnd_pos hDok.out hlt
          have hres := hres1.out a hlt
          obtain ⟨P, hP⟩ : ∃ P, fnd D a = P := ⟨_, rfl⟩
          obtain ⟨R, hR⟩ : ∃ R, fnd X a = R := ⟨_, rfl⟩
          have C1 := Lib.hid (fun w h => (show Calls Try.prog 19 #[vx3, .int .i64 (a : Int)] w fun e w' => e = .returned (.int .i64 P) ∧ Below w.heap.size w w' from by have := iTableFind_any vx3 D a w h; rwa [fnd_t hDok.out hlt, hP] at this))
          have C2 := Lib.hid (fun w h => (show Calls Try.prog 19 #[vx2, .int .i64 (a : Int)] w fun e w' => e = .returned (.int .i64 R) ∧ Below w.heap.size w w' from by have := iTableFind_any vx2 X a w h; rwa [fnd_t hXok.out hlt, hR] at this))
          rw [hP] at hres hp
          rw [hR] at hres
          clear hP hR
          go_wp2_with fail
          refine (C1.out _ (HD.out.below hF.kp).1).mono ?_; rintro e wx ⟨rfl, hbx⟩
          replace hF := hF.below hbx
          clear hbx
          by_cases hz : P = 0
          · subst hz
            rw [if_pos rfl] at hres
            subst hres
            clear hp
            go_wp2_with (go_at_call 19; go_must (refine (C2.out _ (HU.out.below hF.kp).1).mono ?_); rintro e wx ⟨rfl, hbx⟩; replace hF := hF.below hbx; clear hbx)
            go_roundw
            case rel => exact ⟨a + 1, by omega, by go_num, hF⟩
            case measure => simp [intOf]; omega
          · rw [if_neg hz] at hres
            subst hres
            have e1 : (R == 0) = false := by simp [hz]
            have e2 : 0 < R := by omega
            have e3 : (R != R) = false := by simp
            clear hz hp
            go_wp2_with (go_at_call 19; go_must (refine (C2.out _ (HU.out.below hF.kp).1).mono ?_); rintro e wx ⟨rfl, hbx⟩; replace hF := hF.below hbx; clear hbx)
            go_roundw
            case rel => exact ⟨a + 1, by omega, by go_num, hF⟩
            case measure => simp [intOf]; omega
        · obtain rfl : a = 256 := by omega
          go_wp2
          go_ret
          exact ⟨rfl, (HF.out.below hF.kp).kp⟩
  · have d1 : decide (TOk T) = false := by simp [h1]
    clear h1
    go_wp2_with (first | (go_at_call 19; go_must (refine (iTableFind_any _ T _ _ hV.1).mono ?_); rintro e wx ⟨rfl, hbx⟩; replace hF := hF.below hbx; replace hV := hV.below hbx; clear hbx) | (go_at_call 20; go_must (refine (sTableFind_any _ T _ _ hV.1).mono ?_); rintro e wx ⟨rfl, hbx⟩; replace hF := hF.below hbx; replace hV := hV.below hbx; clear hbx) | (go_at_call 17; go_must (refine (sTableOk_any _ T _ hV.1).mono ?_); rintro e wx ⟨rfl, hbx⟩; replace hF := hF.below hbx; replace hV := hV.below hbx; clear hbx))
    go_ret
    exact ⟨by simp, hF.kp⟩
end Go.Proofs.Ytbhenfegklgkoaa
