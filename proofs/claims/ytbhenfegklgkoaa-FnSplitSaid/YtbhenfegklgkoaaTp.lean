/- Law on tables that are the same: FnTableSame. -/
import Derived.Test.YtbhenfegklgkoaaTo
set_option linter.unusedSimpArgs false
set_option linter.unusedVariables false
namespace Go.Proofs.Ytbhenfegklgkoaa
open Go.RowKit

theorem drawTableSame_any (v0 : Value) (w : World) (h : Given w v0) :
    Calls Try.prog 24 #[v0] w fun e w' => ∃ (v u : Value) (T U : List Ent), e = .returned (.tuple #[v, u]) ∧ Tb w' v T ∧ Tb w' u U ∧ Below w.heap.size w w' := by
  go_enter Try.func24, Try.ntmps24
  go_wp2_with fail
  refine (open_any v0 _ h).mono ?_; rintro e w1 ⟨rfl, hR, hb1⟩
  have hlt := hR.lt
  clear h
  go_wp2_with fail
  refine (l91Table_any _ 0 _ hR (by omega)).mono ?_; rintro e w2 ⟨v, T, rfl, hO, hne, hT, ⟨k2, hk2, hR2⟩, hK2⟩
  have hs2 := hK2.size
  have HN := Lib.hid hne
  clear hne
  go_wp2_with fail
  refine (pick_any _ _ _ _ hR2 (by omega) (by omega) (by omega)).mono ?_; rintro e w3 ⟨v3, rfl, u3, l3, hR3, hK3⟩
  have hs3 := hK3.size
  replace hO := hO.kp hK3 hlt
  have hB := hb1.trans ((hK2.trans hK3).below (B := w.heap.size) (Nat.le_refl _) hb1.size)
  clear hR hR2 hK2 hK3
  by_cases h3 : v3 = 0
  · subst h3
    have hV := hO.tb
    clear hO
    go_wp2_with fail
    refine (sTableLess_any _ T _ hV HN.out).mono ?_; rintro e w4 ⟨u, rfl, hU, hb4⟩
    have hV2 := Lib.hid (hV.below hb4)
    have hU2 := Lib.hid hU.tb
    have hB2 := hB.trans (hb4.mono hB.size)
    clear hV hU hb4 hB
    go_wp2
    go_ret2
    exact ⟨_, _, T, _, rfl, hV2.out, hU2.out, hB2⟩
  · have e3 : (v3 == 0) = false := by simp [h3]
    clear h3
    go_wp2_with fail
    refine (l91Table_any _ _ _ hR3 (by omega)).mono ?_; rintro e w4 ⟨u, U, rfl, hU, -, -, -, hK4⟩
    have hV2 := Lib.hid (hO.kp hK4 hlt).tb
    have hU2 := Lib.hid hU.tb
    have hB2 := hB.trans (hK4.below (B := w.heap.size) (Nat.le_refl _) hB.size)
    clear hO hU hK4 hB hR3
    go_wp2
    go_ret2
    exact ⟨_, _, T, U, rfl, hV2.out, hU2.out, hB2⟩
theorem sm_iff (T U : List Ent) : SmT T U ↔ ∀ a, a < 256 → fnd T a = fnd U a := Iff.rfl
theorem same_step {T U : List Ent} {c : Bool} {k : Nat} (h : c = true ↔ ∀ a, a < k → fnd T a = fnd U a) {b : Bool} (hb : (c && (fnd T k == fnd U k)) = b) : b = true ↔ ∀ a, a < k + 1 → fnd T a = fnd U a := by
  rw [← hb, Bool.and_eq_true, h, beq_iff_eq]
  constructor
  · rintro ⟨h1, h2⟩ a ha
    by_cases e : a = k
    · rw [e]; exact h2
    · exact h1 a (by omega)
  · exact fun g => ⟨fun a ha => g a (by omega), g k (by omega)⟩
theorem fnd_t {T : List Ent} (hT : TOk T) {k : Nat} (hk : k < 256) : tfind T (k : Int) = fnd T k := by
  rw [tfind_yes hT ⟨by omega, by omega⟩]; rfl
set_option maxHeartbeats 4000000 in
theorem FnTableSame_walk (a0 : Option Addr) (n0 c0 : Nat) (w : World) (h0 : Given w (.slice a0 n0 c0)) :
    Calls Try.prog 6 #[.slice a0 n0 c0] w fun e w' => e = .returned (.bool true) ∧ Below w.heap.size w w' := by
  by_cases hn0 : 1048576 < n0
  · have e0 : decide (1048576 < (n0 : Int)) = true := by simp; omega
    go_enter Try.func6, Try.ntmps6
    go_wp2
    go_ret
    exact ⟨rfl, Below.refl _ _⟩
  have e0 : decide (1048576 < (n0 : Int)) = false := by simp; omega
  have hF := Fb.start w
  go_enter Try.func6, Try.ntmps6
  go_wp2_with fail
  refine (drawTableSame_any _ _ h0).mono ?_; rintro e w1 ⟨v, u, T, U, rfl, hV, hU, hb1⟩
  replace hF := hF.below hb1
  clear hb1 h0
  obtain ⟨b, hb⟩ : ∃ b, decide (TSame T U) = b := ⟨_, rfl⟩
  have hbb : (b != b) = false := by simp
  have hbe : (b == b) = true := by simp
  have sarm : ∀ w (h1 : Ents w v T) (h2 : Ents w u U), Calls Try.prog 25 #[v, u] w fun e w' => e = .returned (.bool b) ∧ Below w.heap.size w w' := fun w h1 h2 => by have := iTableSame_any v u T U w h1 h2; rwa [hb] at this
  have sarm2 : ∀ w (h1 : Ents w v T) (h2 : Ents w u U), Calls Try.prog 26 #[v, u] w fun e w' => e = .returned (.bool b) ∧ Below w.heap.size w w' := fun w h1 h2 => by have := sTableSame_any v u T U w h1 h2; rwa [hb] at this
  have S1 := Lib.hid sarm
  have S2 := Lib.hid sarm2
  have HB := Lib.hid hb
  clear sarm sarm2 hb
  go_wp2_with fail
  refine (S1.out _ hV.1 hU.1).mono ?_; rintro e w2 ⟨rfl, hb2⟩
  replace hF := hF.below hb2
  replace hV := hV.below hb2
  replace hU := hU.below hb2
  clear hb2
  go_wp2_with fail
  refine (S2.out _ hV.1 hU.1).mono ?_; rintro e w2 ⟨rfl, hb2⟩
  replace hF := hF.below hb2
  replace hV := hV.below hb2
  replace hU := hU.below hb2
  clear hb2
  by_cases h1 : TOk T
  · have d1 : decide (TOk T) = true := by simp [h1]
    by_cases h2 : TOk U
    · have d2 : decide (TOk U) = true := by simp [h2]
      have HT := Lib.hid h1
      have HU := Lib.hid h2
      clear h1 h2
      go_wp2_with fail
      refine (sTableOk_any _ T _ hV.1).mono ?_; rintro e w2 ⟨rfl, hb2⟩
      replace hF := hF.below hb2
      replace hV := hV.below hb2
      replace hU := hU.below hb2
      clear hb2
      go_wp2_with fail
      refine (sTableOk_any _ U _ hU.1).mono ?_; rintro e wa ⟨rfl, hb2⟩
      replace hF := hF.below hb2
      have HVa := Lib.hid (hV.below hb2)
      have HUa := Lib.hid (hU.below hb2)
      have HF := Lib.hid hF
      clear hb2 hV hU hF
      go_wp2
      clear d1 d2
      go_loopw [6, 7] (fun s6 s7 wr => ∃ (k : Nat) (c : Bool), k ≤ 256 ∧ s6 = .bool c ∧ s7 = .int .i64 k ∧ Hid (c = true ↔ ∀ a, a < k → fnd T a = fnd U a) ∧ Fb wa wr []) (fun _ s7 _ => 256 - (intOf s7).toNat)
      case atStart => exact ⟨0, true, by omega, rfl, rfl, by show _ ↔ _; simp, Fb.start wa⟩
      case round =>
        obtain ⟨k, c, hk, rfl, rfl, hc, hF⟩ := hrel
        by_cases hlt : k < 256
        · have hle : (k : Int) ≤ 255 := by omega
          cases c
          · have hst : Hid (false = true ↔ ∀ a, a < k + 1 → fnd T a = fnd U a) := same_step hc.out (by simp)
            go_wp2
            go_roundw
            case rel => exact ⟨k + 1, false, by omega, rfl, by go_num, hst, hF⟩
            case measure => simp [intOf]; omega
          · obtain ⟨P, hP⟩ : ∃ P, fnd T k = P := ⟨_, rfl⟩
            obtain ⟨R, hR⟩ : ∃ R, fnd U k = R := ⟨_, rfl⟩
            have hst : Hid ((P == R) = true ↔ ∀ a, a < k + 1 → fnd T a = fnd U a) := same_step hc.out (by rw [hP, hR]; rfl)
            have C1 := Lib.hid (fun w h => (show Calls Try.prog 19 #[v, .int .i64 (k : Int)] w fun e w' => e = .returned (.int .i64 P) ∧ Below w.heap.size w w' from by have := iTableFind_any v T k w h; rwa [fnd_t HT.out hlt, hP] at this))
            have C2 := Lib.hid (fun w h => (show Calls Try.prog 19 #[u, .int .i64 (k : Int)] w fun e w' => e = .returned (.int .i64 R) ∧ Below w.heap.size w w' from by have := iTableFind_any u U k w h; rwa [fnd_t HU.out hlt, hR] at this))
            clear hP hR
            go_wp2_with fail
            refine (C1.out _ (HVa.out.below hF.kp).1).mono ?_; rintro e w3 ⟨rfl, hb3⟩
            replace hF := hF.below hb3
            clear hb3
            go_wp2_with fail
            refine (C2.out _ (HUa.out.below hF.kp).1).mono ?_; rintro e w4 ⟨rfl, hb4⟩
            replace hF := hF.below hb4
            clear hb4
            go_wp2
            go_roundw
            case rel => exact ⟨k + 1, (P == R), by omega, rfl, by go_num, hst, hF⟩
            case measure => simp [intOf]; omega
        · obtain rfl : k = 256 := by omega
          have hbc : b = c := by
            rw [← HB.out, Bool.eq_iff_iff, decide_eq_true_eq, hc.out]
            exact ⟨fun g => g.2.2, fun g => ⟨HT.out, HU.out, g⟩⟩
          subst hbc
          have dTT : decide (TSame T T) = true := decide_eq_true ⟨HT.out, HT.out, fun a _ => rfl⟩
          have dUT : decide (TSame U T) = b := by
            rw [← HB.out]
            exact decide_eq_decide.2 ⟨fun g => ⟨HT.out, HU.out, fun a ha => (g.2.2 a ha).symm⟩, fun g => ⟨HU.out, HT.out, fun a ha => (g.2.2 a ha).symm⟩⟩
          have C3 := Lib.hid (fun w h1 h2 => (show Calls Try.prog 25 #[u, v] w fun e w' => e = .returned (.bool b) ∧ Below w.heap.size w w' from by have := iTableSame_any u v U T w h1 h2; rwa [dUT] at this))
          clear dUT
          go_wp2_with fail
          refine (iTableSame_any _ _ T T _ (HVa.out.below hF.kp).1 (HVa.out.below hF.kp).1).mono ?_; rintro e w3 ⟨rfl, hb3⟩
          replace hF := hF.below hb3
          clear hb3
          go_wp2_with fail
          refine (C3.out _ (HUa.out.below hF.kp).1 (HVa.out.below hF.kp).1).mono ?_; rintro e w4 ⟨rfl, hb4⟩
          replace hF := hF.below hb4
          clear hb4
          go_wp2
          go_ret
          exact ⟨by simp, (HF.out.below hF.kp).kp⟩
    · have d2 : decide (TOk U) = false := by simp [h2]
      clear h1 h2
      go_wp2_with fail
      refine (sTableOk_any _ T _ hV.1).mono ?_; rintro e w2 ⟨rfl, hb2⟩
      replace hF := hF.below hb2
      replace hV := hV.below hb2
      replace hU := hU.below hb2
      clear hb2
      go_wp2_with fail
      refine (sTableOk_any _ U _ hU.1).mono ?_; rintro e w2 ⟨rfl, hb2⟩
      replace hF := hF.below hb2
      replace hV := hV.below hb2
      replace hU := hU.below hb2
      clear hb2
      go_wp2_with fail
      refine (S2.out _ hV.1 hU.1).mono ?_; rintro e w2 ⟨rfl, hb2⟩
      replace hF := hF.below hb2
      clear hb2
      go_wp2
      go_ret
      exact ⟨by simp, hF.kp⟩
  · have d1 : decide (TOk T) = false := by simp [h1]
    clear h1
    go_wp2_with fail
    refine (sTableOk_any _ T _ hV.1).mono ?_; rintro e w2 ⟨rfl, hb2⟩
    replace hF := hF.below hb2
    replace hV := hV.below hb2
    replace hU := hU.below hb2
    clear hb2
    go_wp2_with fail
    refine (S2.out _ hV.1 hU.1).mono ?_; rintro e w2 ⟨rfl, hb2⟩
    replace hF := hF.below hb2
    clear hb2
    go_wp2
    go_ret
    exact ⟨by simp, hF.kp⟩
end Go.Proofs.Ytbhenfegklgkoaa
