/- Tries: finding, putting. -/
import Derived.Test.YtbhenfegklgkoaaTi
set_option linter.unusedSimpArgs false
set_option linter.unusedVariables false
namespace Go.Proofs.Ytbhenfegklgkoaa
open Go.RowKit

theorem pO_none : pO none = .pointer none := rfl
theorem pO_some (g : Nat) : pO (some g) = .pointer (some ⟨g, 0, none⟩) := rfl
theorem fl_yes {vs : Nat → Int} {a k : Nat} (h : vs (up a k) ≠ 0) : fl vs a (k + 1) = vs (up a k) := by show (if _ then _ else _) = _; rw [if_pos h]
theorem fl_no {vs : Nat → Int} {a k : Nat} (h : vs (up a k) = 0) : fl vs a (k + 1) = fl vs a k := by show (if _ then _ else _) = _; rw [if_neg (by rw [h]; simp)]
set_option maxHeartbeats 2000000 in
theorem find_any (a B root : Nat) (nd : Nat → Option Nat) (vs : Nat → Int) (w : World) (ha : a < 256) (hT : Tr w B root nd vs) :
    Calls Try.prog 50 #[.pointer (some ⟨root, 0, none⟩), .int .i64 a] w fun e w' => e = .returned (.int .i64 (fl vs a 9)) ∧ Below w.heap.size w w' := by
  have hF := Fb.start w
  have HT := Lib.hid hT
  have hr0 : Hid (nd (up a 0) = some root) := by show _ = _; rw [up_0 ha]; exact hT.root
  clear hT
  go_enter Try.func50, Try.ntmps50
  go_wp2
  go_loopw [0, 5, 6] (fun s0 s5 s6 wr => ∃ (k : Nat) (o : Option Nat), k ≤ 8 ∧ s0 = pO o ∧ s5 = .int .i64 (fl vs a k) ∧ s6 = .int .i64 k ∧ Hid (nd (up a k) = o) ∧ Fb w wr []) (fun _ _ s6 _ => 9 - (intOf s6).toNat)
  case atStart => exact ⟨0, some root, by omega, rfl, rfl, rfl, hr0.out, hF⟩
  case round =>
    clear hF
    obtain ⟨k, o, hk, rfl, rfl, rfl, hnd, hF⟩ := hrel
    cases o with
    | none =>
      rw [pO_none]
      have hfin := Lib.hid (HT.out.fl_off ha hk hnd.out)
      go_wp2
      go_ret
      exact ⟨by rw [← hfin.out]; rfl, hF.kp⟩
    | some g =>
      rw [pO_some]
      have hN := (HT.out.node _ _ hnd.out)
      have c0 := hF.old hN.c0
      have cc0 := fun x : Cl wr.heap.size wr => x.cell c0
      by_cases h8 : k = 8
      · subst h8
        by_cases hz : vs (up a 8) = 0
        · have e0 : (vs (up a 8) != 0) = false := by simp [hz]
          have hfin := Lib.hid (fl_no hz)
          clear hz
          go_wp2
          go_ret
          exact ⟨by rw [show (9 : Nat) = 8 + 1 from rfl, hfin.out]; rfl, hF.kp⟩
        · have e0 : (vs (up a 8) != 0) = true := by simp [hz]
          have hfin := Lib.hid (fl_yes hz)
          clear hz
          go_wp2
          go_ret
          exact ⟨by rw [show (9 : Nat) = 8 + 1 from rfl, hfin.out]; rfl, hF.kp⟩
      · have e8 : ((k : Int) == 8) = false := by simp; omega
        have hk8 : k < 8 := by omega
        have hst := Lib.hid (up_step (a := a) hk8)
        have hbb : up a (k + 1) % 2 = 0 ∨ up a (k + 1) % 2 = 1 := by omega
        have c1 := hF.old hN.c1
        have c2 := hF.old hN.c2
        have cc1 := fun x : Cl wr.heap.size wr => x.cell c1
        have cc2 := fun x : Cl wr.heap.size wr => x.cell c2
        clear hN h8 c1 c2
        rcases hbb with hbt | hbt
        · have hn2 : Hid (nd (up a (k + 1)) = nd (2 * up a k)) := by show _ = _; rw [hst.out, hbt]; rfl
          generalize nd (2 * up a k) = o2 at *
          by_cases hz : vs (up a k) = 0
          · have e0 : (vs (up a k) != 0) = false := by simp [hz]
            have hfin := Lib.hid (fl_no hz)
            clear hz
            go_wp2
            first | refine wp_region_new (by kernel_rfl) (by kernel_rfl) ?_ | refine wp_region_lex ?_
            repeat (any_goals (first | go_big_quiet_step (((go_at_call 69; exact Calls.cl (bitOf_any a k _ ha hk8)))) | (refine wpQuiet_step (fun K hK => ?_); go_simp; split <;> (rename_i hg; refine hK _ ?_; clear hK K; simp only [hg, decide_true, decide_false]))))
            all_goals (refine wpQuiet_nil ?_; intro x)
            go_wp2
            go_roundw
            case rel => exact ⟨k + 1, o2, by omega, rfl, by rw [hfin.out], by go_num, hn2, hF.cl x⟩
            case measure => simp [intOf]; omega
          · have e0 : (vs (up a k) != 0) = true := by simp [hz]
            have hfin := Lib.hid (fl_yes hz)
            clear hz
            go_wp2
            first | refine wp_region_new (by kernel_rfl) (by kernel_rfl) ?_ | refine wp_region_lex ?_
            repeat (any_goals (first | go_big_quiet_step (((go_at_call 69; exact Calls.cl (bitOf_any a k _ ha hk8)))) | (refine wpQuiet_step (fun K hK => ?_); go_simp; split <;> (rename_i hg; refine hK _ ?_; clear hK K; simp only [hg, decide_true, decide_false]))))
            all_goals (refine wpQuiet_nil ?_; intro x)
            go_wp2
            go_roundw
            case rel => exact ⟨k + 1, o2, by omega, rfl, by rw [hfin.out], by go_num, hn2, hF.cl x⟩
            case measure => simp [intOf]; omega
        · have hn2 : Hid (nd (up a (k + 1)) = nd (2 * up a k + 1)) := by show _ = _; rw [hst.out, hbt]
          generalize nd (2 * up a k + 1) = o2 at *
          by_cases hz : vs (up a k) = 0
          · have e0 : (vs (up a k) != 0) = false := by simp [hz]
            have hfin := Lib.hid (fl_no hz)
            clear hz
            go_wp2
            first | refine wp_region_new (by kernel_rfl) (by kernel_rfl) ?_ | refine wp_region_lex ?_
            repeat (any_goals (first | go_big_quiet_step (((go_at_call 69; exact Calls.cl (bitOf_any a k _ ha hk8)))) | (refine wpQuiet_step (fun K hK => ?_); go_simp; split <;> (rename_i hg; refine hK _ ?_; clear hK K; simp only [hg, decide_true, decide_false]))))
            all_goals (refine wpQuiet_nil ?_; intro x)
            go_wp2
            go_roundw
            case rel => exact ⟨k + 1, o2, by omega, rfl, by rw [hfin.out], by go_num, hn2, hF.cl x⟩
            case measure => simp [intOf]; omega
          · have e0 : (vs (up a k) != 0) = true := by simp [hz]
            have hfin := Lib.hid (fl_yes hz)
            clear hz
            go_wp2
            first | refine wp_region_new (by kernel_rfl) (by kernel_rfl) ?_ | refine wp_region_lex ?_
            repeat (any_goals (first | go_big_quiet_step (((go_at_call 69; exact Calls.cl (bitOf_any a k _ ha hk8)))) | (refine wpQuiet_step (fun K hK => ?_); go_simp; split <;> (rename_i hg; refine hK _ ?_; clear hK K; simp only [hg, decide_true, decide_false]))))
            all_goals (refine wpQuiet_nil ?_; intro x)
            go_wp2
            go_roundw
            case rel => exact ⟨k + 1, o2, by omega, rfl, by rw [hfin.out], by go_num, hn2, hF.cl x⟩
            case measure => simp [intOf]; omega
end Go.Proofs.Ytbhenfegklgkoaa
