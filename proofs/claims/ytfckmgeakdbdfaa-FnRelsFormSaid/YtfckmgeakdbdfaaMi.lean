/- RelMay of the program. -/
import Derived.Test.YtfckmgeakdbdfaaMh
set_option linter.unusedSimpArgs false
set_option linter.unusedVariables false
namespace Go.Proofs.Ytfckmgeakdbdfaa
open Go.RowKit Go.Maps Go.WideMaps

set_option maxHeartbeats 1000000 in
theorem iRelMay_any (v : Value) (M : List (List Int)) (h o t : Int) (w : World) (hM : Mat w v M) (hh : -1000000 ≤ h) (hh' : h ≤ 1000000) (ho : -1000000 ≤ o) (ho' : o ≤ 1000000) (ht : -1000000 ≤ t) (ht' : t ≤ 1000000) :
    Calls Try.prog 20 #[v, .int .i64 h, .int .i64 o, .int .i64 t] w fun e w' => e = .returned (.bool (decide (MayP M h o t))) ∧ Below w.heap.size w w' := by
  have hF := Fb.start w
  by_cases hp : RelsP M
  · have hr : decide (MayP M h o t) = (decide (Bts h 1 M.length) && decide (Bts t 1 M.length) && ((o == 0) || decide (Bts o 1 M.length)) && decide (MayR M h o t)) := by
      rw [Bool.eq_iff_iff]; simp only [decide_eq_true_eq, Bool.and_eq_true, Bool.or_eq_true, beq_iff_eq, mayP_r, hp, true_and, and_assoc]
    rw [hr]; clear hr
    have HC := Lib.hid (readRels_yes v M w hM hp)
    have HP := Lib.hid hp
    clear hM hp
    generalize hn : (M.length : Int) = n at *
    clear hn
    by_cases d1 : Bts h 1 n
    · have e1 : decide (Bts h 1 n) = true := by simp [d1]
      by_cases d2 : Bts t 1 n
      · have e2 : decide (Bts t 1 n) = true := by simp [d2]
        by_cases d3 : o = 0
        · have e3 : (o == 0) = true := by simp [d3]
          rw [e1, e2, e3]; clear d1 d2 d3
          go_enter Try.func20, Try.ntmps20
          go_wp2_with fail
          refine HC.out.mono ?_; rintro e w1 ⟨b, rfl, hK, hb1⟩
          replace hF := (hF.below hb1).alloc [.int .i64 n, .map (some b)] 50
          replace hK := hK.alloc (.cells #[.int .i64 n, .map (some b)] 50)
          clear hb1
          have o := hF.own; simp only [World.size_alloc, World.size_drew, World.size_setCell, List.mem_cons, List.not_mem_nil, or_false, forall_eq_or_imp, forall_eq, At, and_true, Nat.zero_add, Nat.reduceAdd, List.set_cons_zero, List.set_cons_succ] at o
          go_wp2_with (first | (go_at_call 43; go_must (refine (of_any M _ b _ _ _ HP.out (by repeat (first | assumption | apply Kn.alloc | apply Kn.drew)) (by assumption) (by assumption) (by assumption) (by assumption)).mono ?_); rintro e wx ⟨rfl, hbx⟩; replace hF := Fb.below (by repeat (first | assumption | apply Fb.alloc_1 | apply Fb.alloc_2 | apply Fb.alloc_3 | apply Fb.alloc_4 | apply Fb.alloc_5 | apply Fb.alloc_8 | apply Fb.drew | apply Fb.drewN | apply Fb.other)) hbx; replace hK := Kn.below (by repeat (first | assumption | apply Kn.alloc | apply Kn.drew)) hbx; clear hbx; (try clear o); have o := hF.own; simp only [World.size_alloc, World.size_drew, World.size_setCell, List.mem_cons, List.not_mem_nil, or_false, forall_eq_or_imp, forall_eq, At, and_true, Nat.zero_add, Nat.reduceAdd, List.set_cons_zero, List.set_cons_succ] at o) | (go_at_call 45; go_must (refine (has_any _ _ _ _ rfl).mono ?_); rintro e wx ⟨rfl, hbx⟩; replace hF := Fb.below (by repeat (first | assumption | apply Fb.alloc_1 | apply Fb.alloc_2 | apply Fb.alloc_3 | apply Fb.alloc_4 | apply Fb.alloc_5 | apply Fb.alloc_8 | apply Fb.drew | apply Fb.drewN | apply Fb.other)) hbx; replace hK := Kn.below (by repeat (first | assumption | apply Kn.alloc | apply Kn.drew)) hbx; clear hbx; (try clear o); have o := hF.own; simp only [World.size_alloc, World.size_drew, World.size_setCell, List.mem_cons, List.not_mem_nil, or_false, forall_eq_or_imp, forall_eq, At, and_true, Nat.zero_add, Nat.reduceAdd, List.set_cons_zero, List.set_cons_succ] at o) | (go_at_call 46; go_must (refine (exports_any M _ b _ _ _ _ HP.out (by repeat (first | assumption | apply Kn.alloc | apply Kn.drew)) (by assumption) (by assumption) (by assumption) (by assumption) (by assumption) (by assumption)).mono ?_); rintro e wx ⟨rfl, hbx⟩; replace hF := Fb.below (by repeat (first | assumption | apply Fb.alloc_1 | apply Fb.alloc_2 | apply Fb.alloc_3 | apply Fb.alloc_4 | apply Fb.alloc_5 | apply Fb.alloc_8 | apply Fb.drew | apply Fb.drewN | apply Fb.other)) hbx; replace hK := Kn.below (by repeat (first | assumption | apply Kn.alloc | apply Kn.drew)) hbx; clear hbx; (try clear o); have o := hF.own; simp only [World.size_alloc, World.size_drew, World.size_setCell, List.mem_cons, List.not_mem_nil, or_false, forall_eq_or_imp, forall_eq, At, and_true, Nat.zero_add, Nat.reduceAdd, List.set_cons_zero, List.set_cons_succ] at o))
          go_ret
          exact ⟨by simp, Fb.kp (by repeat (first | assumption | apply Fb.alloc_1 | apply Fb.alloc_2 | apply Fb.alloc_3 | apply Fb.alloc_4 | apply Fb.alloc_5 | apply Fb.alloc_8 | apply Fb.drew | apply Fb.drewN | apply Fb.other))⟩
        · have e3 : (o == 0) = false := by simp [d3]
          by_cases d4 : Bts o 1 n
          · have e4 : decide (Bts o 1 n) = true := by simp [d4]
            rw [e1, e2, e3, e4]; clear d1 d2 d3 d4
            go_enter Try.func20, Try.ntmps20
            go_wp2_with fail
            refine HC.out.mono ?_; rintro e w1 ⟨b, rfl, hK, hb1⟩
            replace hF := (hF.below hb1).alloc [.int .i64 n, .map (some b)] 50
            replace hK := hK.alloc (.cells #[.int .i64 n, .map (some b)] 50)
            clear hb1
            have o := hF.own; simp only [World.size_alloc, World.size_drew, World.size_setCell, List.mem_cons, List.not_mem_nil, or_false, forall_eq_or_imp, forall_eq, At, and_true, Nat.zero_add, Nat.reduceAdd, List.set_cons_zero, List.set_cons_succ] at o
            go_wp2_with (first | (go_at_call 43; go_must (refine (of_any M _ b _ _ _ HP.out (by repeat (first | assumption | apply Kn.alloc | apply Kn.drew)) (by assumption) (by assumption) (by assumption) (by assumption)).mono ?_); rintro e wx ⟨rfl, hbx⟩; replace hF := Fb.below (by repeat (first | assumption | apply Fb.alloc_1 | apply Fb.alloc_2 | apply Fb.alloc_3 | apply Fb.alloc_4 | apply Fb.alloc_5 | apply Fb.alloc_8 | apply Fb.drew | apply Fb.drewN | apply Fb.other)) hbx; replace hK := Kn.below (by repeat (first | assumption | apply Kn.alloc | apply Kn.drew)) hbx; clear hbx; (try clear o); have o := hF.own; simp only [World.size_alloc, World.size_drew, World.size_setCell, List.mem_cons, List.not_mem_nil, or_false, forall_eq_or_imp, forall_eq, At, and_true, Nat.zero_add, Nat.reduceAdd, List.set_cons_zero, List.set_cons_succ] at o) | (go_at_call 45; go_must (refine (has_any _ _ _ _ rfl).mono ?_); rintro e wx ⟨rfl, hbx⟩; replace hF := Fb.below (by repeat (first | assumption | apply Fb.alloc_1 | apply Fb.alloc_2 | apply Fb.alloc_3 | apply Fb.alloc_4 | apply Fb.alloc_5 | apply Fb.alloc_8 | apply Fb.drew | apply Fb.drewN | apply Fb.other)) hbx; replace hK := Kn.below (by repeat (first | assumption | apply Kn.alloc | apply Kn.drew)) hbx; clear hbx; (try clear o); have o := hF.own; simp only [World.size_alloc, World.size_drew, World.size_setCell, List.mem_cons, List.not_mem_nil, or_false, forall_eq_or_imp, forall_eq, At, and_true, Nat.zero_add, Nat.reduceAdd, List.set_cons_zero, List.set_cons_succ] at o) | (go_at_call 46; go_must (refine (exports_any M _ b _ _ _ _ HP.out (by repeat (first | assumption | apply Kn.alloc | apply Kn.drew)) (by assumption) (by assumption) (by assumption) (by assumption) (by assumption) (by assumption)).mono ?_); rintro e wx ⟨rfl, hbx⟩; replace hF := Fb.below (by repeat (first | assumption | apply Fb.alloc_1 | apply Fb.alloc_2 | apply Fb.alloc_3 | apply Fb.alloc_4 | apply Fb.alloc_5 | apply Fb.alloc_8 | apply Fb.drew | apply Fb.drewN | apply Fb.other)) hbx; replace hK := Kn.below (by repeat (first | assumption | apply Kn.alloc | apply Kn.drew)) hbx; clear hbx; (try clear o); have o := hF.own; simp only [World.size_alloc, World.size_drew, World.size_setCell, List.mem_cons, List.not_mem_nil, or_false, forall_eq_or_imp, forall_eq, At, and_true, Nat.zero_add, Nat.reduceAdd, List.set_cons_zero, List.set_cons_succ] at o))
            go_ret
            exact ⟨by simp, Fb.kp (by repeat (first | assumption | apply Fb.alloc_1 | apply Fb.alloc_2 | apply Fb.alloc_3 | apply Fb.alloc_4 | apply Fb.alloc_5 | apply Fb.alloc_8 | apply Fb.drew | apply Fb.drewN | apply Fb.other))⟩
          · have e4 : decide (Bts o 1 n) = false := by simp [d4]
            rw [e1, e2, e3, e4]; clear d1 d2 d3 d4
            go_enter Try.func20, Try.ntmps20
            go_wp2_with fail
            refine HC.out.mono ?_; rintro e w1 ⟨b, rfl, hK, hb1⟩
            replace hF := (hF.below hb1).alloc [.int .i64 n, .map (some b)] 50
            replace hK := hK.alloc (.cells #[.int .i64 n, .map (some b)] 50)
            clear hb1
            have o := hF.own; simp only [World.size_alloc, World.size_drew, World.size_setCell, List.mem_cons, List.not_mem_nil, or_false, forall_eq_or_imp, forall_eq, At, and_true, Nat.zero_add, Nat.reduceAdd, List.set_cons_zero, List.set_cons_succ] at o
            go_wp2_with (first | (go_at_call 43; go_must (refine (of_any M _ b _ _ _ HP.out (by repeat (first | assumption | apply Kn.alloc | apply Kn.drew)) (by assumption) (by assumption) (by assumption) (by assumption)).mono ?_); rintro e wx ⟨rfl, hbx⟩; replace hF := Fb.below (by repeat (first | assumption | apply Fb.alloc_1 | apply Fb.alloc_2 | apply Fb.alloc_3 | apply Fb.alloc_4 | apply Fb.alloc_5 | apply Fb.alloc_8 | apply Fb.drew | apply Fb.drewN | apply Fb.other)) hbx; replace hK := Kn.below (by repeat (first | assumption | apply Kn.alloc | apply Kn.drew)) hbx; clear hbx; (try clear o); have o := hF.own; simp only [World.size_alloc, World.size_drew, World.size_setCell, List.mem_cons, List.not_mem_nil, or_false, forall_eq_or_imp, forall_eq, At, and_true, Nat.zero_add, Nat.reduceAdd, List.set_cons_zero, List.set_cons_succ] at o) | (go_at_call 45; go_must (refine (has_any _ _ _ _ rfl).mono ?_); rintro e wx ⟨rfl, hbx⟩; replace hF := Fb.below (by repeat (first | assumption | apply Fb.alloc_1 | apply Fb.alloc_2 | apply Fb.alloc_3 | apply Fb.alloc_4 | apply Fb.alloc_5 | apply Fb.alloc_8 | apply Fb.drew | apply Fb.drewN | apply Fb.other)) hbx; replace hK := Kn.below (by repeat (first | assumption | apply Kn.alloc | apply Kn.drew)) hbx; clear hbx; (try clear o); have o := hF.own; simp only [World.size_alloc, World.size_drew, World.size_setCell, List.mem_cons, List.not_mem_nil, or_false, forall_eq_or_imp, forall_eq, At, and_true, Nat.zero_add, Nat.reduceAdd, List.set_cons_zero, List.set_cons_succ] at o) | (go_at_call 46; go_must (refine (exports_any M _ b _ _ _ _ HP.out (by repeat (first | assumption | apply Kn.alloc | apply Kn.drew)) (by assumption) (by assumption) (by assumption) (by assumption) (by assumption) (by assumption)).mono ?_); rintro e wx ⟨rfl, hbx⟩; replace hF := Fb.below (by repeat (first | assumption | apply Fb.alloc_1 | apply Fb.alloc_2 | apply Fb.alloc_3 | apply Fb.alloc_4 | apply Fb.alloc_5 | apply Fb.alloc_8 | apply Fb.drew | apply Fb.drewN | apply Fb.other)) hbx; replace hK := Kn.below (by repeat (first | assumption | apply Kn.alloc | apply Kn.drew)) hbx; clear hbx; (try clear o); have o := hF.own; simp only [World.size_alloc, World.size_drew, World.size_setCell, List.mem_cons, List.not_mem_nil, or_false, forall_eq_or_imp, forall_eq, At, and_true, Nat.zero_add, Nat.reduceAdd, List.set_cons_zero, List.set_cons_succ] at o))
            go_ret
            exact ⟨by simp, Fb.kp (by repeat (first | assumption | apply Fb.alloc_1 | apply Fb.alloc_2 | apply Fb.alloc_3 | apply Fb.alloc_4 | apply Fb.alloc_5 | apply Fb.alloc_8 | apply Fb.drew | apply Fb.drewN | apply Fb.other))⟩
      · have e2 : decide (Bts t 1 n) = false := by simp [d2]
        rw [e1, e2]; clear d1 d2
        go_enter Try.func20, Try.ntmps20
        go_wp2_with fail
        refine HC.out.mono ?_; rintro e w1 ⟨b, rfl, hK, hb1⟩
        replace hF := (hF.below hb1).alloc [.int .i64 n, .map (some b)] 50
        replace hK := hK.alloc (.cells #[.int .i64 n, .map (some b)] 50)
        clear hb1
        have o := hF.own; simp only [World.size_alloc, World.size_drew, World.size_setCell, List.mem_cons, List.not_mem_nil, or_false, forall_eq_or_imp, forall_eq, At, and_true, Nat.zero_add, Nat.reduceAdd, List.set_cons_zero, List.set_cons_succ] at o
        go_wp2_with (first | (go_at_call 43; go_must (refine (of_any M _ b _ _ _ HP.out (by repeat (first | assumption | apply Kn.alloc | apply Kn.drew)) (by assumption) (by assumption) (by assumption) (by assumption)).mono ?_); rintro e wx ⟨rfl, hbx⟩; replace hF := Fb.below (by repeat (first | assumption | apply Fb.alloc_1 | apply Fb.alloc_2 | apply Fb.alloc_3 | apply Fb.alloc_4 | apply Fb.alloc_5 | apply Fb.alloc_8 | apply Fb.drew | apply Fb.drewN | apply Fb.other)) hbx; replace hK := Kn.below (by repeat (first | assumption | apply Kn.alloc | apply Kn.drew)) hbx; clear hbx; (try clear o); have o := hF.own; simp only [World.size_alloc, World.size_drew, World.size_setCell, List.mem_cons, List.not_mem_nil, or_false, forall_eq_or_imp, forall_eq, At, and_true, Nat.zero_add, Nat.reduceAdd, List.set_cons_zero, List.set_cons_succ] at o) | (go_at_call 45; go_must (refine (has_any _ _ _ _ rfl).mono ?_); rintro e wx ⟨rfl, hbx⟩; replace hF := Fb.below (by repeat (first | assumption | apply Fb.alloc_1 | apply Fb.alloc_2 | apply Fb.alloc_3 | apply Fb.alloc_4 | apply Fb.alloc_5 | apply Fb.alloc_8 | apply Fb.drew | apply Fb.drewN | apply Fb.other)) hbx; replace hK := Kn.below (by repeat (first | assumption | apply Kn.alloc | apply Kn.drew)) hbx; clear hbx; (try clear o); have o := hF.own; simp only [World.size_alloc, World.size_drew, World.size_setCell, List.mem_cons, List.not_mem_nil, or_false, forall_eq_or_imp, forall_eq, At, and_true, Nat.zero_add, Nat.reduceAdd, List.set_cons_zero, List.set_cons_succ] at o) | (go_at_call 46; go_must (refine (exports_any M _ b _ _ _ _ HP.out (by repeat (first | assumption | apply Kn.alloc | apply Kn.drew)) (by assumption) (by assumption) (by assumption) (by assumption) (by assumption) (by assumption)).mono ?_); rintro e wx ⟨rfl, hbx⟩; replace hF := Fb.below (by repeat (first | assumption | apply Fb.alloc_1 | apply Fb.alloc_2 | apply Fb.alloc_3 | apply Fb.alloc_4 | apply Fb.alloc_5 | apply Fb.alloc_8 | apply Fb.drew | apply Fb.drewN | apply Fb.other)) hbx; replace hK := Kn.below (by repeat (first | assumption | apply Kn.alloc | apply Kn.drew)) hbx; clear hbx; (try clear o); have o := hF.own; simp only [World.size_alloc, World.size_drew, World.size_setCell, List.mem_cons, List.not_mem_nil, or_false, forall_eq_or_imp, forall_eq, At, and_true, Nat.zero_add, Nat.reduceAdd, List.set_cons_zero, List.set_cons_succ] at o))
        go_ret
        exact ⟨by simp, Fb.kp (by repeat (first | assumption | apply Fb.alloc_1 | apply Fb.alloc_2 | apply Fb.alloc_3 | apply Fb.alloc_4 | apply Fb.alloc_5 | apply Fb.alloc_8 | apply Fb.drew | apply Fb.drewN | apply Fb.other))⟩
    · have e1 : decide (Bts h 1 n) = false := by simp [d1]
      rw [e1]; clear d1
      go_enter Try.func20, Try.ntmps20
      go_wp2_with fail
      refine HC.out.mono ?_; rintro e w1 ⟨b, rfl, hK, hb1⟩
      replace hF := (hF.below hb1).alloc [.int .i64 n, .map (some b)] 50
      replace hK := hK.alloc (.cells #[.int .i64 n, .map (some b)] 50)
      clear hb1
      have o := hF.own; simp only [World.size_alloc, World.size_drew, World.size_setCell, List.mem_cons, List.not_mem_nil, or_false, forall_eq_or_imp, forall_eq, At, and_true, Nat.zero_add, Nat.reduceAdd, List.set_cons_zero, List.set_cons_succ] at o
      go_wp2_with (first | (go_at_call 43; go_must (refine (of_any M _ b _ _ _ HP.out (by repeat (first | assumption | apply Kn.alloc | apply Kn.drew)) (by assumption) (by assumption) (by assumption) (by assumption)).mono ?_); rintro e wx ⟨rfl, hbx⟩; replace hF := Fb.below (by repeat (first | assumption | apply Fb.alloc_1 | apply Fb.alloc_2 | apply Fb.alloc_3 | apply Fb.alloc_4 | apply Fb.alloc_5 | apply Fb.alloc_8 | apply Fb.drew | apply Fb.drewN | apply Fb.other)) hbx; replace hK := Kn.below (by repeat (first | assumption | apply Kn.alloc | apply Kn.drew)) hbx; clear hbx; (try clear o); have o := hF.own; simp only [World.size_alloc, World.size_drew, World.size_setCell, List.mem_cons, List.not_mem_nil, or_false, forall_eq_or_imp, forall_eq, At, and_true, Nat.zero_add, Nat.reduceAdd, List.set_cons_zero, List.set_cons_succ] at o) | (go_at_call 45; go_must (refine (has_any _ _ _ _ rfl).mono ?_); rintro e wx ⟨rfl, hbx⟩; replace hF := Fb.below (by repeat (first | assumption | apply Fb.alloc_1 | apply Fb.alloc_2 | apply Fb.alloc_3 | apply Fb.alloc_4 | apply Fb.alloc_5 | apply Fb.alloc_8 | apply Fb.drew | apply Fb.drewN | apply Fb.other)) hbx; replace hK := Kn.below (by repeat (first | assumption | apply Kn.alloc | apply Kn.drew)) hbx; clear hbx; (try clear o); have o := hF.own; simp only [World.size_alloc, World.size_drew, World.size_setCell, List.mem_cons, List.not_mem_nil, or_false, forall_eq_or_imp, forall_eq, At, and_true, Nat.zero_add, Nat.reduceAdd, List.set_cons_zero, List.set_cons_succ] at o) | (go_at_call 46; go_must (refine (exports_any M _ b _ _ _ _ HP.out (by repeat (first | assumption | apply Kn.alloc | apply Kn.drew)) (by assumption) (by assumption) (by assumption) (by assumption) (by assumption) (by assumption)).mono ?_); rintro e wx ⟨rfl, hbx⟩; replace hF := Fb.below (by repeat (first | assumption | apply Fb.alloc_1 | apply Fb.alloc_2 | apply Fb.alloc_3 | apply Fb.alloc_4 | apply Fb.alloc_5 | apply Fb.alloc_8 | apply Fb.drew | apply Fb.drewN | apply Fb.other)) hbx; replace hK := Kn.below (by repeat (first | assumption | apply Kn.alloc | apply Kn.drew)) hbx; clear hbx; (try clear o); have o := hF.own; simp only [World.size_alloc, World.size_drew, World.size_setCell, List.mem_cons, List.not_mem_nil, or_false, forall_eq_or_imp, forall_eq, At, and_true, Nat.zero_add, Nat.reduceAdd, List.set_cons_zero, List.set_cons_succ] at o))
      go_ret
      exact ⟨by simp, Fb.kp (by repeat (first | assumption | apply Fb.alloc_1 | apply Fb.alloc_2 | apply Fb.alloc_3 | apply Fb.alloc_4 | apply Fb.alloc_5 | apply Fb.alloc_8 | apply Fb.drew | apply Fb.drewN | apply Fb.other))⟩
  · have hr : decide (MayP M h o t) = false := by simp [MayP, hp]
    rw [hr]; clear hr
    have HC := Lib.hid (readRels_no v M w hM hp)
    clear hM hp
    go_enter Try.func20, Try.ntmps20
    go_wp2_with fail
    refine HC.out.mono ?_; rintro e w1 ⟨rfl, hb⟩
    replace hF := hF.below hb
    go_wp2
    go_ret
    exact ⟨rfl, Fb.kp (by repeat (first | assumption | apply Fb.alloc_1 | apply Fb.alloc_2 | apply Fb.alloc_3 | apply Fb.alloc_4 | apply Fb.alloc_5 | apply Fb.alloc_8 | apply Fb.drew | apply Fb.drewN | apply Fb.other))⟩
end Go.Proofs.Ytfckmgeakdbdfaa
