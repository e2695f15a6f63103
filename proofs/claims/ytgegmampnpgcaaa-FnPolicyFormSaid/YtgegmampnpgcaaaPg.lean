/- FnPolicyForm: the walk. -/
import Derived.Test.YtgegmampnpgcaaaPe
import Derived.Test.YtgegmampnpgcaaaBs
set_option linter.unusedSimpArgs false
set_option linter.unusedVariables false
namespace Go.Proofs.Ytgegmampnpgcaaa
open Go.RowKit

theorem cls_len {w : World} {ao : Option Addr} {n c : Nat} {P : List ClD} (h : Cls w (.slice ao n c) P) : P.length = n ∧ n ≤ c ∧ c ≤ 9223372036854775807 := by
  obtain ⟨ao, cap, e, h1, h2, _⟩ := h.ex
  injection e with e1 e2 e3
  subst e2; subst e3
  exact ⟨rfl, h1, h2⟩
theorem cls_take {w : World} {b off n c : Nat} {P : List ClD} (h : Cls w (.slice (some ⟨b, off, none⟩) n c) P) {k : Nat} (hk : k ≤ n) : Cls w (.slice (some ⟨b, off, none⟩) k c) (P.take k) := by
  obtain ⟨_, h1, h2⟩ := cls_len h
  have := Rows.sub h (i := 0) (j := k) (c' := c) (by omega) hk (by omega) h2
  simpa using this
theorem cls_drop {w : World} {b n c : Nat} {P : List ClD} (h : Cls w (.slice (some ⟨b, 0, none⟩) n c) P) {k : Nat} (hk : k ≤ n) : Cls w (.slice (some ⟨b, k * 8, none⟩) (n - k) (c - k)) (P.drop k) := by
  obtain ⟨h0, h1, h2⟩ := cls_len h
  have := Rows.sub h (i := k) (j := n) (c' := c - k) hk (by omega) (by omega) (by omega)
  rw [List.take_of_length_le (by omega), Nat.zero_add] at this
  exact this
set_option maxRecDepth 100000 in
set_option maxHeartbeats 4000000 in
theorem FnPolicyForm_walk (a0 a1 : Option Addr) (n0 c0 n1 c1 : Nat) (w : World) (h0 : Given w (.slice a0 n0 c0)) (_h1 : Given w (.slice a1 n1 c1)) :
    Calls Try.prog 3 #[.slice a0 n0 c0, .slice a1 n1 c1] w fun e w' => e = .returned (.bool true) ∧ Below w.heap.size w w' := by
  by_cases hn0 : 1048576 < n0
  · have e0 : decide (1048576 < (n0 : Int)) = true := by simp; omega
    go_enter Try.func3, Try.ntmps3
    go_wp2
    go_ret
    exact ⟨rfl, Below.refl _ _⟩
  have e0 : decide (1048576 < (n0 : Int)) = false := by simp; omega
  by_cases hn1 : 1048576 < n1
  · have e1 : decide (1048576 < (n1 : Int)) = true := by simp; omega
    go_enter Try.func3, Try.ntmps3
    go_wp2
    go_ret
    exact ⟨rfl, Below.refl _ _⟩
  have e1 : decide (1048576 < (n1 : Int)) = false := by simp; omega
  have hF := Fb.start w
  clear _h1
  go_enter Try.func3, Try.ntmps3
  go_wp2_with fail
  refine (drawPolicyOk_any _ _ h0).mono ?_; rintro e w1 ⟨g, n, c, P, rfl, hO, hn, hn10, hnc, hb1⟩
  replace hF := hF.below hb1
  have hV : Cls w1 (.slice (some ⟨g, 0, none⟩) n c) P := hO.rows (fun _ => rfl)
  clear hb1 h0 hO
  have tok1 : True := trivial
  have tok2 : True := trivial
  have tok3 : True := trivial
  have tok4 : True := trivial
  by_cases hp : PolOk P
  · have d1 : decide (PolOk P) = true := decide_eq_true hp
    have hn5 : n ≤ 5 := by have := hp.2; have := hn.out; omega
    have hn5' : (n : Int) ≤ 5 := by omega
    have hadd : (n : Int) + 1 = ((n + 1 : Nat) : Int) := by simp
    obtain ⟨q, hq⟩ : ∃ q, n + 1 = q := ⟨_, rfl⟩
    rw [hq] at hadd
    have hq0 : 0 < (q : Int) := by omega
    obtain ⟨k, hk⟩ : ∃ k : Nat, (n1 : Int) % (q : Int) = (k : Int) := ⟨n1 % q, by simp⟩
    have hkn : k ≤ n := by
      have := Int.emod_lt_of_pos (n1 : Int) hq0
      omega
    have hkc : k ≤ c := by omega
    have hcc := (cls_len hV).2.2
    have d2 : decide (PolOk (P.take k)) = true := decide_eq_true (pol_sub hp (List.take_sublist k P))
    have d3 : decide (PolOk (P.drop k)) = true := decide_eq_true (pol_sub hp (List.drop_sublist k P))
    have d4 : decide (PolOk (P.take k ++ [⟨0, 0, 0, 0, false, 0, 0, 0⟩])) = false := decide_eq_false (pol_not _)
    have HV0 : Hid (n = k → P.drop k = []) := by show _ → _; intro e; have := hn.out; exact List.drop_eq_nil_of_le (by omega)
    clear hp
    by_cases hck : c = k
    · have hnk : n = k := by omega
      have hdr := Lib.hid (HV0.out hnk)
      clear hq
      have hck3 := hck.symm
      have hnk3 := hnk.symm
      clear hck hnk
      subst hck3
      subst hnk3
      go_wp2_with (first | (go_at_call 5; clear tok1; go_must (refine (iPolicyOk_any _ P _ hV).mono ?_); rintro e wx ⟨rfl, hbx⟩; replace hF := hF.below hbx; replace hV := Rows.below hV hbx; clear hbx) | (go_at_call 6; go_must (refine (sPolicyOk_any _ P _ hV).mono ?_); rintro e wx ⟨rfl, hbx⟩; replace hF := hF.below hbx; replace hV := Rows.below hV hbx; clear hbx) | (go_at_call 5; clear tok2; go_must (refine (iPolicyOk_any _ (P.take k) _ (cls_take hV hkn)).mono ?_); rintro e wx ⟨rfl, hbx⟩; replace hF := hF.below hbx; replace hV := Rows.below hV hbx; clear hbx) | (go_at_call 5; clear tok3; go_must (refine (iPolicyOk_any _ (P.drop k) _ (by rw [hdr.out]; exact Rows.nil _ _ _ (by omega) _ _)).mono ?_); rintro e wx ⟨rfl, hbx⟩; replace hF := hF.below hbx; replace hV := Rows.below hV hbx; clear hbx) | (at_builtin; clear tok4; refine wpListG (by rfl) (step_apps (by rfl) _ _ 23 (by rfl) 29 zC 8 64 Try.underlying23 infoCl rfl (by decide) (by decide) wx.heap.size encC (fun _ => rfl) (fun _ u hu => by simp [encC] at hu; rcases hu with rfl | rfl | rfl | rfl | rfl | rfl | rfl | rfl <;> rfl) _ [] (by rfl) (Own.made _ _ _ _ _ (Nat.le_refl _)) g 0 k k (P.take k) (by rfl) (Rows.alloc (cls_take hV hkn) _) (by simp; omega) (by simp) ?_); intro u9 wy hO9 hg9 hb9 hf9; rw [List.nil_append] at hO9; have hsw := hF.kp.size; have hsy := hb9.size; (try simp only [World.size_alloc] at hsy); have hb8 := ((Below.refl wx.heap.size wx).alloc (Nat.le_refl _) (.cells #[] 29)).trans hb9; replace hF := hF.below hb8; replace hV := Rows.below hV hb8; clear hg9 hf9 hb9 hb8) | (at_builtin; refine wpListG (by rfl) (step_app1 (by rfl) _ _ 23 (by rfl) 29 zC 8 64 Try.underlying23 infoCl rfl (by decide) (by decide) wx.heap.size encC _ _ (by rfl) (hO9.alloc _) (⟨0, 0, 0, 0, false, 0, 0, 0⟩ : ClD) ⟨_, 0, none⟩ 1 (by rfl) rfl (cells_new _ _ _) (by simp [encC, Value.oneCell']) (by rw [List.length_take]; omega) (by simp only [World.size_alloc]; omega) ?_); intro v' wz hO1 hg1 hb1 hf1; have hO8 := hO1.rows (fun _ => rfl); replace hF := (hF.other _).belowB hb1 (by omega) (by simp); clear hO1 hg1 hb1 hf1) | (go_at_call 5; go_must (refine (iPolicyOk_any _ (P.take k ++ [⟨0, 0, 0, 0, false, 0, 0, 0⟩]) _ hO8).mono ?_); rintro e wx ⟨rfl, hbx⟩; replace hF := hF.below hbx; clear hbx))
      go_ret
      exact ⟨rfl, hF.kp⟩
    · have hck' : ¬ k = c := fun e => hck e.symm
      clear hq
      go_wp2_with (first | (go_at_call 5; clear tok1; go_must (refine (iPolicyOk_any _ P _ hV).mono ?_); rintro e wx ⟨rfl, hbx⟩; replace hF := hF.below hbx; replace hV := Rows.below hV hbx; clear hbx) | (go_at_call 6; go_must (refine (sPolicyOk_any _ P _ hV).mono ?_); rintro e wx ⟨rfl, hbx⟩; replace hF := hF.below hbx; replace hV := Rows.below hV hbx; clear hbx) | (go_at_call 5; clear tok2; go_must (refine (iPolicyOk_any _ (P.take k) _ (cls_take hV hkn)).mono ?_); rintro e wx ⟨rfl, hbx⟩; replace hF := hF.below hbx; replace hV := Rows.below hV hbx; clear hbx) | (go_at_call 5; clear tok3; go_must (refine (iPolicyOk_any _ (P.drop k) _ (cls_drop hV hkn)).mono ?_); rintro e wx ⟨rfl, hbx⟩; replace hF := hF.below hbx; replace hV := Rows.below hV hbx; clear hbx) | (at_builtin; clear tok4; refine wpListG (by rfl) (step_apps (by rfl) _ _ 23 (by rfl) 29 zC 8 64 Try.underlying23 infoCl rfl (by decide) (by decide) wx.heap.size encC (fun _ => rfl) (fun _ u hu => by simp [encC] at hu; rcases hu with rfl | rfl | rfl | rfl | rfl | rfl | rfl | rfl <;> rfl) _ [] (by rfl) (Own.made _ _ _ _ _ (Nat.le_refl _)) g 0 k c (P.take k) (by rfl) (Rows.alloc (cls_take hV hkn) _) (by simp; omega) (by simp) ?_); intro u9 wy hO9 hg9 hb9 hf9; rw [List.nil_append] at hO9; have hsw := hF.kp.size; have hsy := hb9.size; (try simp only [World.size_alloc] at hsy); have hb8 := ((Below.refl wx.heap.size wx).alloc (Nat.le_refl _) (.cells #[] 29)).trans hb9; replace hF := hF.below hb8; replace hV := Rows.below hV hb8; clear hg9 hf9 hb9 hb8) | (at_builtin; refine wpListG (by rfl) (step_app1 (by rfl) _ _ 23 (by rfl) 29 zC 8 64 Try.underlying23 infoCl rfl (by decide) (by decide) wx.heap.size encC _ _ (by rfl) (hO9.alloc _) (⟨0, 0, 0, 0, false, 0, 0, 0⟩ : ClD) ⟨_, 0, none⟩ 1 (by rfl) rfl (cells_new _ _ _) (by simp [encC, Value.oneCell']) (by rw [List.length_take]; omega) (by simp only [World.size_alloc]; omega) ?_); intro v' wz hO1 hg1 hb1 hf1; have hO8 := hO1.rows (fun _ => rfl); replace hF := (hF.other _).belowB hb1 (by omega) (by simp); clear hO1 hg1 hb1 hf1) | (go_at_call 5; go_must (refine (iPolicyOk_any _ (P.take k ++ [⟨0, 0, 0, 0, false, 0, 0, 0⟩]) _ hO8).mono ?_); rintro e wx ⟨rfl, hbx⟩; replace hF := hF.below hbx; clear hbx))
      go_ret
      exact ⟨rfl, hF.kp⟩
  · have d1 : decide (PolOk P) = false := decide_eq_false hp
    clear hp
    go_wp2_with (first | (go_at_call 5; clear tok1; go_must (refine (iPolicyOk_any _ P _ hV).mono ?_); rintro e wx ⟨rfl, hbx⟩; replace hF := hF.below hbx; replace hV := Rows.below hV hbx; clear hbx) | (go_at_call 6; go_must (refine (sPolicyOk_any _ P _ hV).mono ?_); rintro e wx ⟨rfl, hbx⟩; replace hF := hF.below hbx; replace hV := Rows.below hV hbx; clear hbx))
    go_ret
    exact ⟨rfl, hF.kp⟩
end Go.Proofs.Ytgegmampnpgcaaa
