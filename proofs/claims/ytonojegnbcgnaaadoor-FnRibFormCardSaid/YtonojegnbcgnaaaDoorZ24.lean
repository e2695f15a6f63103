/- Are two routes the same; FnRouteCmp: the walk. -/
import Derived.Test.YtonojegnbcgnaaaDoorZ13
import Derived.Test.YtonojegnbcgnaaaDoorZ17
set_option linter.unusedSimpArgs false
set_option linter.unusedVariables false
namespace Go.Proofs.YtonojegnbcgnaaaDoor
open Go.RowKit

set_option maxHeartbeats 4000000 in
theorem lyRoute_any (f b lk : Int) (pv mv : Value) (P M : List Int) (g c lk2 : Int) (pv2 mv2 : Value) (P2 M2 : List Int) (w : World) (hp : Ints w pv P) (hm : Ints w mv M) (hp2 : Ints w pv2 P2) (hm2 : Ints w mv2 M2) :
    Calls Tryd.prog 14 #[.agg #[.int .i64 f, .int .i64 b, pv, .int .i64 lk, mv], .agg #[.int .i64 g, .int .i64 c, pv2, .int .i64 lk2, mv2]] w fun e w' => e = .returned (.bool (decide (SameR f b lk P M g c lk2 P2 M2))) ∧ Below w.heap.size w w' := by
  obtain ⟨o1, c1, rfl, -⟩ := hp.ex
  obtain ⟨o2, c2, rfl, -⟩ := hm.ex
  obtain ⟨o3, c3, rfl, -⟩ := hp2.ex
  obtain ⟨o4, c4, rfl, -⟩ := hm2.ex
  have hF := ((Fb.start w).alloc [.int .i64 f, .int .i64 b, .slice o1 P.length c1, .int .i64 lk, .slice o2 M.length c2] 27).alloc [.int .i64 g, .int .i64 c, .slice o3 P2.length c3, .int .i64 lk2, .slice o4 M2.length c4] 27
  have hb0 := hF.kp
  simp only [World.size_alloc] at hF
  replace hp := Rows.below hp hb0
  replace hm := Rows.below hm hb0
  replace hp2 := Rows.below hp2 hb0
  replace hm2 := Rows.below hm2 hb0
  clear hb0
  have o := hF.own; simp only [World.size_alloc, World.size_drew, World.size_setCell, List.mem_cons, List.not_mem_nil, or_false, forall_eq_or_imp, forall_eq, At, and_true, Nat.zero_add, Nat.reduceAdd, List.set_cons_zero, List.set_cons_succ] at o
  have tok1 : True := trivial
  by_cases e1 : f = g ∧ b = c
  · have heql : ∀ w, (binOp .eql 24 (.agg #[.int .i64 f, .int .i64 b]) (.agg #[.int .i64 g, .int .i64 c])).run Tryd.prog w = .ok (.bool true) w := fun w => by rw [rng_eql]; simp [e1]
    by_cases e2 : P = P2
    · have L1 := Lib.hid (fun (w : World) (g1 : Ints w (.slice o1 P.length c1) P) (g2 : Ints w (.slice o3 P2.length c3) P2) => (show Calls Tryd.prog 32 #[.slice o1 P.length c1, .slice o3 P2.length c3] w fun e w' => e = .returned (.bool true) ∧ Below w.heap.size w w' from by have := lyInts_any _ _ P P2 w g1 g2; rwa [(decide_eq_true e2)] at this))
      by_cases e3 : lk = lk2
      · have d3 : (lk == lk2) = true := by simp [e3]
        have hr : Hid (decide (SameR f b lk P M g c lk2 P2 M2) = decide (M = M2)) := decide_eq_decide.2 ⟨fun q => q.2.2.2, fun q => ⟨e1, e2, e3, q⟩⟩
        clear e1 e2 e3
        go_enter Tryd.func14, Tryd.ntmps14
        go_wp2_with (first | (go_at_call 32; clear tok1; go_must (refine (L1.out _ hp hp2).mono ?_); rintro e wx ⟨rfl, hbx⟩; (replace hF := hF.below hbx; (try replace hp := Rows.below hp hbx); (try replace hm := Rows.below hm hbx); (try replace hp2 := Rows.below hp2 hbx); (try replace hm2 := Rows.below hm2 hbx); clear hbx o; have o := hF.own; simp only [World.size_alloc, World.size_drew, World.size_setCell, List.mem_cons, List.not_mem_nil, or_false, forall_eq_or_imp, forall_eq, At, and_true, Nat.zero_add, Nat.reduceAdd, List.set_cons_zero, List.set_cons_succ] at o)) | (go_at_call 32; go_must (refine (lyInts_any _ _ M M2 _ hm hm2).mono ?_); rintro e wx ⟨rfl, hbx⟩; (replace hF := hF.below hbx; (try replace hp := Rows.below hp hbx); (try replace hm := Rows.below hm hbx); (try replace hp2 := Rows.below hp2 hbx); (try replace hm2 := Rows.below hm2 hbx); clear hbx o; have o := hF.own; simp only [World.size_alloc, World.size_drew, World.size_setCell, List.mem_cons, List.not_mem_nil, or_false, forall_eq_or_imp, forall_eq, At, and_true, Nat.zero_add, Nat.reduceAdd, List.set_cons_zero, List.set_cons_succ] at o)))
        go_ret
        exact ⟨by rw [hr.out]; rfl, hF.kp⟩
      · have d3 : (lk == lk2) = false := by simp [e3]
        have hr : Hid (decide (SameR f b lk P M g c lk2 P2 M2) = false) := decide_eq_false fun q => e3 q.2.2.1
        clear e1 e2 e3
        go_enter Tryd.func14, Tryd.ntmps14
        go_wp2_with ((go_at_call 32; clear tok1; go_must (refine (L1.out _ hp hp2).mono ?_); rintro e wx ⟨rfl, hbx⟩; (replace hF := hF.below hbx; (try replace hp := Rows.below hp hbx); (try replace hm := Rows.below hm hbx); (try replace hp2 := Rows.below hp2 hbx); (try replace hm2 := Rows.below hm2 hbx); clear hbx o; have o := hF.own; simp only [World.size_alloc, World.size_drew, World.size_setCell, List.mem_cons, List.not_mem_nil, or_false, forall_eq_or_imp, forall_eq, At, and_true, Nat.zero_add, Nat.reduceAdd, List.set_cons_zero, List.set_cons_succ] at o)))
        go_ret
        exact ⟨by rw [hr.out]; rfl, hF.kp⟩
    · have L1 := Lib.hid (fun (w : World) (g1 : Ints w (.slice o1 P.length c1) P) (g2 : Ints w (.slice o3 P2.length c3) P2) => (show Calls Tryd.prog 32 #[.slice o1 P.length c1, .slice o3 P2.length c3] w fun e w' => e = .returned (.bool false) ∧ Below w.heap.size w w' from by have := lyInts_any _ _ P P2 w g1 g2; rwa [(decide_eq_false e2)] at this))
      have hr : Hid (decide (SameR f b lk P M g c lk2 P2 M2) = false) := decide_eq_false fun q => e2 q.2.1
      clear e1 e2
      go_enter Tryd.func14, Tryd.ntmps14
      go_wp2_with ((go_at_call 32; clear tok1; go_must (refine (L1.out _ hp hp2).mono ?_); rintro e wx ⟨rfl, hbx⟩; (replace hF := hF.below hbx; (try replace hp := Rows.below hp hbx); (try replace hm := Rows.below hm hbx); (try replace hp2 := Rows.below hp2 hbx); (try replace hm2 := Rows.below hm2 hbx); clear hbx o; have o := hF.own; simp only [World.size_alloc, World.size_drew, World.size_setCell, List.mem_cons, List.not_mem_nil, or_false, forall_eq_or_imp, forall_eq, At, and_true, Nat.zero_add, Nat.reduceAdd, List.set_cons_zero, List.set_cons_succ] at o)))
      go_ret
      exact ⟨by rw [hr.out]; rfl, hF.kp⟩
  · have heql : ∀ w, (binOp .eql 24 (.agg #[.int .i64 f, .int .i64 b]) (.agg #[.int .i64 g, .int .i64 c])).run Tryd.prog w = .ok (.bool false) w := fun w => by
      rw [rng_eql]
      have : (f == g && b == c) = false := by rw [Bool.eq_false_iff]; intro q; simp at q; exact e1 q
      rw [this]
    have hr : Hid (decide (SameR f b lk P M g c lk2 P2 M2) = false) := decide_eq_false fun q => e1 q.1
    clear e1
    go_enter Tryd.func14, Tryd.ntmps14
    go_wp2_with fail
    go_ret
    exact ⟨by rw [hr.out]; rfl, hF.kp⟩
theorem bdI {N : Int} (h : -1 ≤ N ∧ N ≤ 1) : N = -1 ∨ N = 0 ∨ N = 1 := by omega
end Go.Proofs.YtonojegnbcgnaaaDoor
