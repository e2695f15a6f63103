/- FnPathThree: the walk. -/
import Derived.Test.YtcdmkmkjppbkgaaDoorEi
import Derived.Test.YtcdmkmkjppbkgaaDoorEg
set_option linter.unusedSimpArgs false
set_option linter.unusedVariables false
namespace Go.Proofs.YtcdmkmkjppbkgaaDoor
open Go.RowKit

theorem icmp_neg1 {a b : Int} : icmp a b = -1 ↔ a < b := by unfold icmp; split <;> (try split) <;> omega
theorem icmp_0 {a b : Int} : icmp a b = 0 ↔ a = b := by unfold icmp; split <;> (try split) <;> omega
theorem icmp_1 {a b : Int} : icmp a b = 1 ↔ b < a := by unfold icmp; split <;> (try split) <;> omega
theorem icmp_neg (a b : Int) : icmp b a = - icmp a b := by unfold icmp; (repeat' split) <;> omega
theorem lex_neg : ∀ (L K : List Int), lex K L = - lex L K
  | [], [] => rfl
  | [], _ :: _ => rfl
  | _ :: _, [] => rfl
  | x :: L, y :: K => by
    simp only [lex]
    have h := icmp_neg x y
    by_cases e : icmp x y = 0
    · rw [if_pos e, if_pos (by omega), lex_neg L K]
    · rw [if_neg e, if_neg (by omega), h]
theorem lex_0 : ∀ {L K : List Int}, lex L K = 0 ↔ L = K
  | [], [] => by simp [lex]
  | [], _ :: _ => by simp [lex]
  | _ :: _, [] => by simp [lex]
  | x :: L, y :: K => by
    simp only [lex]
    by_cases e : icmp x y = 0
    · rw [if_pos e, lex_0 (L := L) (K := K)]
      have := icmp_0.1 e
      simp [this]
    · rw [if_neg e]
      have : x ≠ y := fun g => e (icmp_0.2 g)
      simp [e, this]
theorem lex_trans : ∀ {A B C : List Int}, lex A B = -1 → lex B C = -1 → lex A C = -1
  | [], [], _, h, _ => by simp [lex] at h
  | _ :: _, [], _, h, _ => by simp [lex] at h
  | _, _ :: _, [], _, h => by simp [lex] at h
  | [], _ :: _, _ :: _, _, _ => rfl
  | x :: A, y :: B, z :: C, h1, h2 => by
    simp only [lex] at h1 h2 ⊢
    by_cases e1 : icmp x y = 0
    · rw [if_pos e1] at h1
      obtain rfl := icmp_0.1 e1
      by_cases e2 : icmp x z = 0
      · rw [if_pos e2] at h2 ⊢; exact lex_trans h1 h2
      · rw [if_neg e2] at h2 ⊢; exact h2
    · rw [if_neg e1] at h1
      have l1 := icmp_neg1.1 h1
      by_cases e2 : icmp y z = 0
      · obtain rfl := icmp_0.1 e2
        rw [if_neg (by omega)]; exact h1
      · rw [if_neg e2] at h2
        have l2 := icmp_neg1.1 h2
        have l3 : icmp x z = -1 := icmp_neg1.2 (by omega)
        rw [if_neg (by omega)]; exact l3
theorem pcmp_lt {L K : List Int} : pcmp L K = -1 ↔ L.length < K.length ∨ L.length = K.length ∧ lex L K = -1 := by
  unfold pcmp orz
  by_cases e : icmp (L.length : Int) (K.length : Int) = 0
  · rw [if_pos e]; have := icmp_0.1 e; omega
  · rw [if_neg e, icmp_neg1]
    have : ¬ ((L.length : Int) = K.length) := fun g => e (icmp_0.2 g)
    omega
theorem pcmp_0 {L K : List Int} : pcmp L K = 0 ↔ L = K := by
  unfold pcmp orz
  by_cases e : icmp (L.length : Int) (K.length : Int) = 0
  · rw [if_pos e]; exact lex_0
  · rw [if_neg e]
    exact ⟨fun g => absurd g e, fun g => absurd (by subst g; exact icmp_0.2 rfl) e⟩
theorem pcmp_neg (L K : List Int) : pcmp K L = - pcmp L K := by
  unfold pcmp orz
  have h := icmp_neg (L.length : Int) (K.length : Int)
  by_cases e : icmp (L.length : Int) (K.length : Int) = 0
  · rw [if_pos e, if_pos (by omega), lex_neg]
  · rw [if_neg e, if_neg (by omega), h]
theorem pcmp_trans {A B C : List Int} (h1 : pcmp A B = -1) (h2 : pcmp B C = -1) : pcmp A C = -1 := by
  rw [pcmp_lt] at *
  rcases h1 with h1 | ⟨h1, g1⟩ <;> rcases h2 with h2 | ⟨h2, g2⟩
  · exact Or.inl (by omega)
  · exact Or.inl (by omega)
  · exact Or.inl (by omega)
  · exact Or.inr ⟨by omega, lex_trans g1 g2⟩
theorem PC_ok {L K : List Int} (h1 : POk L) (h2 : POk K) : PC L K = pcmp L K := if_pos ⟨h1, h2⟩
set_option maxHeartbeats 2000000 in
theorem FnPathThree_walk (a0 a1 : Option Addr) (n0 c0 n1 c1 : Nat) (a : Addr) (w : World) (h0 : Given w (.slice a0 n0 c0)) (hG : Given w (.slice a1 n1 c1)) (hE : EPath w a) :
    Calls Tryd.prog 6 #[.slice a0 n0 c0, .slice a1 n1 c1] w fun e w' => e = .returned (.bool true) ∧ Below w.heap.size w w' := by
  by_cases hn0 : 1048576 < n0
  · have e0 : decide (1048576 < (n0 : Int)) = true := by simp; omega
    go_enter Tryd.func6, Tryd.ntmps6
    go_wp2
    go_ret
    exact ⟨rfl, Below.refl _ _⟩
  have e0 : decide (1048576 < (n0 : Int)) = false := by simp; omega
  by_cases hn1 : 1048576 < n1
  · have e1 : decide (1048576 < (n1 : Int)) = true := by simp; omega
    go_enter Tryd.func6, Tryd.ntmps6
    go_wp2
    go_ret
    exact ⟨rfl, Below.refl _ _⟩
  have e1 : decide (1048576 < (n1 : Int)) = false := by simp; omega
  have hF := Fb.start w
  go_enter Tryd.func6, Tryd.ntmps6
  go_wp2_with fail
  refine (drawPathCmp_any _ _ h0).mono ?_; rintro e w1 ⟨v1, v2, L, K, rfl, h1, h2, -, -, hb1⟩
  replace h1 := h1.1
  replace h2 := h2.1
  replace hF := hF.below hb1
  replace hE := hE.below hb1
  replace hG := hG.below hb1
  clear hb1 h0
  obtain ⟨N, hN⟩ : ∃ N, PC L K = N := ⟨_, rfl⟩
  have hNN : (N != N) = false := by simp
  have hNe : (N == N) = true := by simp
  have tok1 : True := trivial
  have tok2 : True := trivial
  by_cases p1 : POk L
  · have d1 : decide (POk L) = true := by simp [p1]
    by_cases p2 : POk K
    · have d2 : decide (POk K) = true := by simp [p2]
      have HN : Hid (pcmp L K = N) := (PC_ok p1 p2).symm.trans hN
      have P1 := Lib.hid p1
      have P2 := Lib.hid p2
      clear p1 p2
      go_wp2_with (first | (go_at_call 25; go_must (refine (iPathCmp_any _ _ L K a _ h1 h2 hE).mono ?_); rintro e wx ⟨rfl, hbx⟩; replace hF := hF.below hbx; (try replace h1 := Rows.below h1 hbx); (try replace h2 := Rows.below h2 hbx); (try replace h3 := Rows.below h3 hbx); (try replace hG := hG.below hbx); (try replace hE := hE.below hbx); clear hbx) | (go_at_call 26; go_must (refine (sPathCmp_any _ _ L K _ h1 h2).mono ?_); rintro e wx ⟨rfl, hbx⟩; replace hF := hF.below hbx; (try replace h1 := Rows.below h1 hbx); (try replace h2 := Rows.below h2 hbx); (try replace h3 := Rows.below h3 hbx); (try replace hG := hG.below hbx); (try replace hE := hE.below hbx); clear hbx) | (go_at_call 15; clear tok1; go_must (refine (sPathOk_any _ L _ h1).mono ?_); rintro e wx ⟨rfl, hbx⟩; replace hF := hF.below hbx; (try replace h1 := Rows.below h1 hbx); (try replace h2 := Rows.below h2 hbx); (try replace h3 := Rows.below h3 hbx); (try replace hG := hG.below hbx); (try replace hE := hE.below hbx); clear hbx) | (go_at_call 15; go_must (refine (sPathOk_any _ K _ h2).mono ?_); rintro e wx ⟨rfl, hbx⟩; replace hF := hF.below hbx; (try replace h1 := Rows.below h1 hbx); (try replace h2 := Rows.below h2 hbx); (try replace h3 := Rows.below h3 hbx); (try replace hG := hG.below hbx); (try replace hE := hE.below hbx); clear hbx))
      refine (drawPathCmp_any _ _ hG).mono ?_; rintro e w3 ⟨v3, v4, M, M2, rfl, h3, -, -, -, hb3⟩
      replace h3 := h3.1
      replace hF := hF.below hb3
      replace hE := hE.below hb3
      replace h1 := Rows.below h1 hb3
      replace h2 := Rows.below h2 hb3
      clear hb3 hG
      clear hN
      by_cases p3 : POk M
      · have d3 : decide (POk M) = true := by simp [p3]
        by_cases hn : N = -1
        · subst hn
          obtain ⟨N2, hN2⟩ : ∃ N2, PC K M = N2 := ⟨_, rfl⟩
          have HN2 : Hid (pcmp K M = N2) := (PC_ok P2.out p3).symm.trans hN2
          by_cases hn2 : N2 = -1
          · subst hn2
            have h13 : PC L M = -1 := (PC_ok P1.out p3).trans (pcmp_trans HN.out HN2.out)
            clear p3
            go_wp2_with (first | (go_at_call 14; go_must (refine (iPathOk_any _ M a _ h3 hE).mono ?_); rintro e wx ⟨rfl, hbx⟩; replace hF := hF.below hbx; (try replace h1 := Rows.below h1 hbx); (try replace h2 := Rows.below h2 hbx); (try replace h3 := Rows.below h3 hbx); (try replace hG := hG.below hbx); (try replace hE := hE.below hbx); clear hbx) | (go_at_call 25; clear tok2; go_must (refine (iPathCmp_any _ _ K M a _ h2 h3 hE).mono ?_); rintro e wx ⟨rfl, hbx⟩; replace hF := hF.below hbx; (try replace h1 := Rows.below h1 hbx); (try replace h2 := Rows.below h2 hbx); (try replace h3 := Rows.below h3 hbx); (try replace hG := hG.below hbx); (try replace hE := hE.below hbx); clear hbx) | (go_at_call 25; go_must (refine (iPathCmp_any _ _ L M a _ h1 h3 hE).mono ?_); rintro e wx ⟨rfl, hbx⟩; replace hF := hF.below hbx; (try replace h1 := Rows.below h1 hbx); (try replace h2 := Rows.below h2 hbx); (try replace h3 := Rows.below h3 hbx); (try replace hG := hG.below hbx); (try replace hE := hE.below hbx); clear hbx))
            go_ret
            exact ⟨rfl, hF.kp⟩
          · have dn : (N2 != -1) = true := by simp [hn2]
            clear p3 hn2
            go_wp2_with (first | (go_at_call 14; go_must (refine (iPathOk_any _ M a _ h3 hE).mono ?_); rintro e wx ⟨rfl, hbx⟩; replace hF := hF.below hbx; (try replace h1 := Rows.below h1 hbx); (try replace h2 := Rows.below h2 hbx); (try replace h3 := Rows.below h3 hbx); (try replace hG := hG.below hbx); (try replace hE := hE.below hbx); clear hbx) | (go_at_call 25; clear tok2; go_must (refine (iPathCmp_any _ _ K M a _ h2 h3 hE).mono ?_); rintro e wx ⟨rfl, hbx⟩; replace hF := hF.below hbx; (try replace h1 := Rows.below h1 hbx); (try replace h2 := Rows.below h2 hbx); (try replace h3 := Rows.below h3 hbx); (try replace hG := hG.below hbx); (try replace hE := hE.below hbx); clear hbx))
            go_ret
            exact ⟨rfl, hF.kp⟩
        · have dn : (N != -1) = true := by simp [hn]
          clear p3 hn
          go_wp2_with (first | (go_at_call 14; go_must (refine (iPathOk_any _ M a _ h3 hE).mono ?_); rintro e wx ⟨rfl, hbx⟩; replace hF := hF.below hbx; (try replace h1 := Rows.below h1 hbx); (try replace h2 := Rows.below h2 hbx); (try replace h3 := Rows.below h3 hbx); (try replace hG := hG.below hbx); (try replace hE := hE.below hbx); clear hbx))
          go_ret
          exact ⟨rfl, hF.kp⟩
      · have d3 : decide (POk M) = false := by simp [p3]
        clear p3
        go_wp2_with (first | (go_at_call 14; go_must (refine (iPathOk_any _ M a _ h3 hE).mono ?_); rintro e wx ⟨rfl, hbx⟩; replace hF := hF.below hbx; (try replace h1 := Rows.below h1 hbx); (try replace h2 := Rows.below h2 hbx); (try replace h3 := Rows.below h3 hbx); (try replace hG := hG.below hbx); (try replace hE := hE.below hbx); clear hbx))
        go_ret
        exact ⟨rfl, hF.kp⟩
    · have d2 : decide (POk K) = false := by simp [p2]
      clear p1 p2
      go_wp2_with (first | (go_at_call 25; go_must (refine (iPathCmp_any _ _ L K a _ h1 h2 hE).mono ?_); rintro e wx ⟨rfl, hbx⟩; replace hF := hF.below hbx; (try replace h1 := Rows.below h1 hbx); (try replace h2 := Rows.below h2 hbx); (try replace h3 := Rows.below h3 hbx); (try replace hG := hG.below hbx); (try replace hE := hE.below hbx); clear hbx) | (go_at_call 26; go_must (refine (sPathCmp_any _ _ L K _ h1 h2).mono ?_); rintro e wx ⟨rfl, hbx⟩; replace hF := hF.below hbx; (try replace h1 := Rows.below h1 hbx); (try replace h2 := Rows.below h2 hbx); (try replace h3 := Rows.below h3 hbx); (try replace hG := hG.below hbx); (try replace hE := hE.below hbx); clear hbx) | (go_at_call 15; clear tok1; go_must (refine (sPathOk_any _ L _ h1).mono ?_); rintro e wx ⟨rfl, hbx⟩; replace hF := hF.below hbx; (try replace h1 := Rows.below h1 hbx); (try replace h2 := Rows.below h2 hbx); (try replace h3 := Rows.below h3 hbx); (try replace hG := hG.below hbx); (try replace hE := hE.below hbx); clear hbx) | (go_at_call 15; go_must (refine (sPathOk_any _ K _ h2).mono ?_); rintro e wx ⟨rfl, hbx⟩; replace hF := hF.below hbx; (try replace h1 := Rows.below h1 hbx); (try replace h2 := Rows.below h2 hbx); (try replace h3 := Rows.below h3 hbx); (try replace hG := hG.below hbx); (try replace hE := hE.below hbx); clear hbx))
      go_ret
      exact ⟨rfl, hF.kp⟩
  · have d1 : decide (POk L) = false := by simp [p1]
    clear p1
    go_wp2_with (first | (go_at_call 25; go_must (refine (iPathCmp_any _ _ L K a _ h1 h2 hE).mono ?_); rintro e wx ⟨rfl, hbx⟩; replace hF := hF.below hbx; (try replace h1 := Rows.below h1 hbx); (try replace h2 := Rows.below h2 hbx); (try replace h3 := Rows.below h3 hbx); (try replace hG := hG.below hbx); (try replace hE := hE.below hbx); clear hbx) | (go_at_call 26; go_must (refine (sPathCmp_any _ _ L K _ h1 h2).mono ?_); rintro e wx ⟨rfl, hbx⟩; replace hF := hF.below hbx; (try replace h1 := Rows.below h1 hbx); (try replace h2 := Rows.below h2 hbx); (try replace h3 := Rows.below h3 hbx); (try replace hG := hG.below hbx); (try replace hE := hE.below hbx); clear hbx) | (go_at_call 15; go_must (refine (sPathOk_any _ L _ h1).mono ?_); rintro e wx ⟨rfl, hbx⟩; replace hF := hF.below hbx; (try replace h1 := Rows.below h1 hbx); (try replace h2 := Rows.below h2 hbx); (try replace h3 := Rows.below h3 hbx); (try replace hG := hG.below hbx); (try replace hE := hE.below hbx); clear hbx))
    go_ret
    exact ⟨rfl, hF.kp⟩
end Go.Proofs.YtcdmkmkjppbkgaaDoor
