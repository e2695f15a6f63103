/- Are two routes the same; FnRouteCmp: the walk. -/
import Derived.Test.YtgegmampnpgcaaaDoorVi
import Derived.Test.YtgegmampnpgcaaaDoorLi
import Derived.Test.YtgegmampnpgcaaaDoorKe
set_option linter.unusedSimpArgs false
set_option linter.unusedVariables false
namespace Go.Proofs.YtgegmampnpgcaaaDoor
open Go.RowKit

set_option maxHeartbeats 4000000 in
theorem lyRoute_any (f b lk : Int) (pv mv : Value) (P M : List Int) (g c lk2 : Int) (pv2 mv2 : Value) (P2 M2 : List Int) (w : World) (hp : Ints w pv P) (hm : Ints w mv M) (hp2 : Ints w pv2 P2) (hm2 : Ints w mv2 M2) :
    Calls Tryd.prog 32 #[.agg #[.int .i64 f, .int .i64 b, pv, .int .i64 lk, mv], .agg #[.int .i64 g, .int .i64 c, pv2, .int .i64 lk2, mv2]] w fun e w' => e = .returned (.bool (decide (SameR f b lk P M g c lk2 P2 M2))) ∧ Below w.heap.size w w' := by
  obtain ⟨o1, c1, rfl, -⟩ := hp.ex
  obtain ⟨o2, c2, rfl, -⟩ := hm.ex
  obtain ⟨o3, c3, rfl, -⟩ := hp2.ex
  obtain ⟨o4, c4, rfl, -⟩ := hm2.ex
  have hF := ((Fb.start w).alloc [.int .i64 f, .int .i64 b, .slice o1 P.length c1, .int .i64 lk, .slice o2 M.length c2] 29).alloc [.int .i64 g, .int .i64 c, .slice o3 P2.length c3, .int .i64 lk2, .slice o4 M2.length c4] 29
  have hb0 := hF.kp
  simp only [World.size_alloc] at hF
  replace hp := Rows.below hp hb0
  replace hm := Rows.below hm hb0
  replace hp2 := Rows.below hp2 hb0
  replace hm2 := Rows.below hm2 hb0
  clear hb0
  have o := hF.own; simp only [World.size_alloc, World.size_drew, World.size_setCell, List.mem_cons, List.not_mem_nil, or_false, forall_eq_or_imp, forall_eq, At, and_true, Nat.zero_add, Nat.reduceAdd, List.set_cons_zero, List.set_cons_succ] at o
  have tok1 : True := trivial
  by_cases e1 : f = g ∧ b = c
  · have heql : ∀ w, (binOp .eql 24 (.agg #[.int .i64 f, .int .i64 b]) (.agg #[.int .i64 g, .int .i64 c])).run Tryd.prog w = .ok (.bool true) w := fun w => by rw [rng_eql]; simp [e1]
    by_cases e2 : P = P2
    · have L1 := Lib.hid (fun (w : World) (g1 : Ints w (.slice o1 P.length c1) P) (g2 : Ints w (.slice o3 P2.length c3) P2) => (show Calls Tryd.prog 25 #[.slice o1 P.length c1, .slice o3 P2.length c3] w fun e w' => e = .returned (.bool true) ∧ Below w.heap.size w w' from by have := lyInts_any _ _ P P2 w g1 g2; rwa [(decide_eq_true e2)] at this))
      by_cases e3 : lk = lk2
      · have d3 : (lk == lk2) = true := by simp [e3]
        have hr : Hid (decide (SameR f b lk P M g c lk2 P2 M2) = decide (M = M2)) := decide_eq_decide.2 ⟨fun q => q.2.2.2, fun q => ⟨e1, e2, e3, q⟩⟩
        clear e1 e2 e3
        go_enter Tryd.func32, Tryd.ntmps32
        go_wp2_with (first | (go_at_call 25; clear tok1; go_must (refine (L1.out _ hp hp2).mono ?_); rintro e wx ⟨rfl, hbx⟩; (replace hF := hF.below hbx; (try replace hp := Rows.below hp hbx); (try replace hm := Rows.below hm hbx); (try replace hp2 := Rows.below hp2 hbx); (try replace hm2 := Rows.below hm2 hbx); clear hbx o; have o := hF.own; simp only [World.size_alloc, World.size_drew, World.size_setCell, List.mem_cons, List.not_mem_nil, or_false, forall_eq_or_imp, forall_eq, At, and_true, Nat.zero_add, Nat.reduceAdd, List.set_cons_zero, List.set_cons_succ] at o)) | (go_at_call 25; go_must (refine (lyInts_any _ _ M M2 _ hm hm2).mono ?_); rintro e wx ⟨rfl, hbx⟩; (replace hF := hF.below hbx; (try replace hp := Rows.below hp hbx); (try replace hm := Rows.below hm hbx); (try replace hp2 := Rows.below hp2 hbx); (try replace hm2 := Rows.below hm2 hbx); clear hbx o; have o := hF.own; simp only [World.size_alloc, World.size_drew, World.size_setCell, List.mem_cons, List.not_mem_nil, or_false, forall_eq_or_imp, forall_eq, At, and_true, Nat.zero_add, Nat.reduceAdd, List.set_cons_zero, List.set_cons_succ] at o)))
        go_ret
        exact ⟨by rw [hr.out]; rfl, hF.kp⟩
      · have d3 : (lk == lk2) = false := by simp [e3]
        have hr : Hid (decide (SameR f b lk P M g c lk2 P2 M2) = false) := decide_eq_false fun q => e3 q.2.2.1
        clear e1 e2 e3
        go_enter Tryd.func32, Tryd.ntmps32
        go_wp2_with ((go_at_call 25; clear tok1; go_must (refine (L1.out _ hp hp2).mono ?_); rintro e wx ⟨rfl, hbx⟩; (replace hF := hF.below hbx; (try replace hp := Rows.below hp hbx); (try replace hm := Rows.below hm hbx); (try replace hp2 := Rows.below hp2 hbx); (try replace hm2 := Rows.below hm2 hbx); clear hbx o; have o := hF.own; simp only [World.size_alloc, World.size_drew, World.size_setCell, List.mem_cons, List.not_mem_nil, or_false, forall_eq_or_imp, forall_eq, At, and_true, Nat.zero_add, Nat.reduceAdd, List.set_cons_zero, List.set_cons_succ] at o)))
        go_ret
        exact ⟨by rw [hr.out]; rfl, hF.kp⟩
    · have L1 := Lib.hid (fun (w : World) (g1 : Ints w (.slice o1 P.length c1) P) (g2 : Ints w (.slice o3 P2.length c3) P2) => (show Calls Tryd.prog 25 #[.slice o1 P.length c1, .slice o3 P2.length c3] w fun e w' => e = .returned (.bool false) ∧ Below w.heap.size w w' from by have := lyInts_any _ _ P P2 w g1 g2; rwa [(decide_eq_false e2)] at this))
      have hr : Hid (decide (SameR f b lk P M g c lk2 P2 M2) = false) := decide_eq_false fun q => e2 q.2.1
      clear e1 e2
      go_enter Tryd.func32, Tryd.ntmps32
      go_wp2_with ((go_at_call 25; clear tok1; go_must (refine (L1.out _ hp hp2).mono ?_); rintro e wx ⟨rfl, hbx⟩; (replace hF := hF.below hbx; (try replace hp := Rows.below hp hbx); (try replace hm := Rows.below hm hbx); (try replace hp2 := Rows.below hp2 hbx); (try replace hm2 := Rows.below hm2 hbx); clear hbx o; have o := hF.own; simp only [World.size_alloc, World.size_drew, World.size_setCell, List.mem_cons, List.not_mem_nil, or_false, forall_eq_or_imp, forall_eq, At, and_true, Nat.zero_add, Nat.reduceAdd, List.set_cons_zero, List.set_cons_succ] at o)))
      go_ret
      exact ⟨by rw [hr.out]; rfl, hF.kp⟩
  · have heql : ∀ w, (binOp .eql 24 (.agg #[.int .i64 f, .int .i64 b]) (.agg #[.int .i64 g, .int .i64 c])).run Tryd.prog w = .ok (.bool false) w := fun w => by
      rw [rng_eql]
      have : (f == g && b == c) = false := by rw [Bool.eq_false_iff]; intro q; simp at q; exact e1 q
      rw [this]
    have hr : Hid (decide (SameR f b lk P M g c lk2 P2 M2) = false) := decide_eq_false fun q => e1 q.1
    clear e1
    go_enter Tryd.func32, Tryd.ntmps32
    go_wp2_with fail
    go_ret
    exact ⟨by rw [hr.out]; rfl, hF.kp⟩
theorem bdI {N : Int} (h : -1 ≤ N ∧ N ≤ 1) : N = -1 ∨ N = 0 ∨ N = 1 := by omega
set_option maxHeartbeats 8000000 in
theorem FnRouteCmp_walk (a0 : Option Addr) (n0 c0 : Nat) (a : Addr) (w : World) (h0 : Given w (.slice a0 n0 c0)) (hE : EPath w a) :
    Calls Tryd.prog 7 #[.slice a0 n0 c0] w fun e w' => e = .returned (.bool true) ∧ Below w.heap.size w w' := by
  by_cases hn0 : 1048576 < n0
  · have e0 : decide (1048576 < (n0 : Int)) = true := by simp; omega
    go_enter Tryd.func7, Tryd.ntmps7
    go_wp2
    go_ret
    exact ⟨rfl, Below.refl _ _⟩
  have e0 : decide (1048576 < (n0 : Int)) = false := by simp; omega
  have hF := Fb.start w
  go_enter Tryd.func7, Tryd.ntmps7
  go_wp2_with fail
  refine (drawRouteCmp_any _ _ h0).mono ?_; rintro e w1 ⟨f, b, lk, pv, mv, P, M, g, c, lk2, pv2, mv2, P2, M2, rfl, h1, h2, h3, h4, hb1⟩
  replace h1 := h1.1
  replace h2 := h2.1
  replace h3 := h3.1
  replace h4 := h4.1
  obtain ⟨o1, k1, rfl, -⟩ := h1.ex
  obtain ⟨o2, k2, rfl, -⟩ := h2.ex
  obtain ⟨o3, k3, rfl, -⟩ := h3.ex
  obtain ⟨o4, k4, rfl, -⟩ := h4.ex
  replace hF := hF.below hb1
  replace hE := hE.below hb1
  clear hb1 h0
  have hb2 := ((Below.refl w1.heap.size w1).alloc (Nat.le_refl _) (.cells #[.int .i64 f, .int .i64 b, .slice o1 P.length k1, .int .i64 lk, .slice o2 M.length k2] 29)).alloc (by simp) (.cells #[.int .i64 g, .int .i64 c, .slice o3 P2.length k3, .int .i64 lk2, .slice o4 M2.length k4] 29)
  replace hF := (hF.alloc [.int .i64 f, .int .i64 b, .slice o1 P.length k1, .int .i64 lk, .slice o2 M.length k2] 29).alloc [.int .i64 g, .int .i64 c, .slice o3 P2.length k3, .int .i64 lk2, .slice o4 M2.length k4] 29
  replace h1 := Rows.below h1 hb2
  replace h2 := Rows.below h2 hb2
  replace h3 := Rows.below h3 hb2
  replace h4 := Rows.below h4 hb2
  replace hE := hE.below hb2
  clear hb2
  simp only [World.size_alloc] at hF
  obtain ⟨n5, hn5⟩ : ∃ n, w1.heap.size = n := ⟨_, rfl⟩
  rw [hn5] at hF
  have o := hF.own; simp only [World.size_alloc, World.size_drew, World.size_setCell, List.mem_cons, List.not_mem_nil, or_false, forall_eq_or_imp, forall_eq, At, and_true, Nat.zero_add, Nat.reduceAdd, List.set_cons_zero, List.set_cons_succ] at o
  obtain ⟨N, hN⟩ : ∃ N, RT f b lk P M g c lk2 P2 M2 = N := ⟨_, rfl⟩
  have hNN : (N != N) = false := by simp
  have hNe : (N == N) = true := by simp
  have tok1 : True := trivial
  have tok2 : True := trivial
  by_cases p1 : RtOk f b P lk M
  · have d1 : decide (RtOk f b P lk M) = true := by simp [p1]
    by_cases p2 : RtOk g c P2 lk2 M2
    · have d2 : decide (RtOk g c P2 lk2 M2) = true := by simp [p2]
      have HN : Hid (rts f b lk P M g c lk2 P2 M2 = N) := (RT_ok p1 p2).symm.trans hN
      have HB : Hid (RT g c lk2 P2 M2 f b lk P M = -N) := by show _ = _; rw [RT_ok p2 p1, rts_neg, HN.out]
      obtain ⟨C, hC⟩ : ∃ C, PC P P2 = C := ⟨_, rfl⟩
      have HS0 : Hid (N = 0 ↔ SameR f b lk P M g c lk2 P2 M2) := by show _ ↔ _; rw [← HN.out]; exact rts_same ..
      have HLk : Hid (lk2 < lk → N = -1) := by show _ → _; intro q; rw [← HN.out]; exact rts_like q
      have HPc : Hid (lk = lk2 → C ≠ 0 → C = N) := by
        show _ → _
        intro q q2
        rw [← hC, PC_ok p1.2.2.1 p2.2.2.1] at q2 ⊢
        rw [← HN.out, q]
        exact (rts_path q2).symm
      have hbd := bdI (show -1 ≤ N ∧ N ≤ 1 by rw [← HN.out]; exact rts_bd ..)
      have HBD := Lib.hid hbd
      have HC := Lib.hid hC
      clear p1 p2 hbd
      go_wp2_with (first | (go_at_call 30; clear tok2; go_must (refine (iRouteCmp_any f b lk _ _ P M g c lk2 _ _ P2 M2 a _ h1 h2 h3 h4 hE).mono ?_); rintro e wx ⟨rfl, hbx⟩; (replace hF := hF.below hbx; (try replace h1 := Rows.below h1 hbx); (try replace h2 := Rows.below h2 hbx); (try replace h3 := Rows.below h3 hbx); (try replace h4 := Rows.below h4 hbx); (try replace h5 := Rows.below h5 hbx); (try replace h6 := Rows.below h6 hbx); (try replace hG := hG.below hbx); (try replace hE := hE.below hbx); clear hbx; (try clear o); have o := hF.own; simp only [World.size_alloc, World.size_drew, World.size_setCell, List.mem_cons, List.not_mem_nil, or_false, forall_eq_or_imp, forall_eq, At, and_true, Nat.zero_add, Nat.reduceAdd, List.set_cons_zero, List.set_cons_succ] at o)) | (go_at_call 31; go_must (refine (sRouteCmp_any f b lk _ _ P M g c lk2 _ _ P2 M2 _ h1 h2 h3 h4).mono ?_); rintro e wx ⟨rfl, hbx⟩; (replace hF := hF.below hbx; (try replace h1 := Rows.below h1 hbx); (try replace h2 := Rows.below h2 hbx); (try replace h3 := Rows.below h3 hbx); (try replace h4 := Rows.below h4 hbx); (try replace h5 := Rows.below h5 hbx); (try replace h6 := Rows.below h6 hbx); (try replace hG := hG.below hbx); (try replace hE := hE.below hbx); clear hbx; (try clear o); have o := hF.own; simp only [World.size_alloc, World.size_drew, World.size_setCell, List.mem_cons, List.not_mem_nil, or_false, forall_eq_or_imp, forall_eq, At, and_true, Nat.zero_add, Nat.reduceAdd, List.set_cons_zero, List.set_cons_succ] at o)) | (go_at_call 14; clear tok1; go_must (refine (sRouteOk_any f b lk _ _ P M _ h1 h2).mono ?_); rintro e wx ⟨rfl, hbx⟩; (replace hF := hF.below hbx; (try replace h1 := Rows.below h1 hbx); (try replace h2 := Rows.below h2 hbx); (try replace h3 := Rows.below h3 hbx); (try replace h4 := Rows.below h4 hbx); (try replace h5 := Rows.below h5 hbx); (try replace h6 := Rows.below h6 hbx); (try replace hG := hG.below hbx); (try replace hE := hE.below hbx); clear hbx; (try clear o); have o := hF.own; simp only [World.size_alloc, World.size_drew, World.size_setCell, List.mem_cons, List.not_mem_nil, or_false, forall_eq_or_imp, forall_eq, At, and_true, Nat.zero_add, Nat.reduceAdd, List.set_cons_zero, List.set_cons_succ] at o)) | (go_at_call 14; go_must (refine (sRouteOk_any g c lk2 _ _ P2 M2 _ h3 h4).mono ?_); rintro e wx ⟨rfl, hbx⟩; (replace hF := hF.below hbx; (try replace h1 := Rows.below h1 hbx); (try replace h2 := Rows.below h2 hbx); (try replace h3 := Rows.below h3 hbx); (try replace h4 := Rows.below h4 hbx); (try replace h5 := Rows.below h5 hbx); (try replace h6 := Rows.below h6 hbx); (try replace hG := hG.below hbx); (try replace hE := hE.below hbx); clear hbx; (try clear o); have o := hF.own; simp only [World.size_alloc, World.size_drew, World.size_setCell, List.mem_cons, List.not_mem_nil, or_false, forall_eq_or_imp, forall_eq, At, and_true, Nat.zero_add, Nat.reduceAdd, List.set_cons_zero, List.set_cons_succ] at o)) | (go_at_call 27; go_must (refine (iPathCmp_any _ _ P P2 a _ h1 h3 hE).mono ?_); rintro e wx ⟨rfl, hbx⟩; (replace hF := hF.below hbx; (try replace h1 := Rows.below h1 hbx); (try replace h2 := Rows.below h2 hbx); (try replace h3 := Rows.below h3 hbx); (try replace h4 := Rows.below h4 hbx); (try replace h5 := Rows.below h5 hbx); (try replace h6 := Rows.below h6 hbx); (try replace hG := hG.below hbx); (try replace hE := hE.below hbx); clear hbx; (try clear o); have o := hF.own; simp only [World.size_alloc, World.size_drew, World.size_setCell, List.mem_cons, List.not_mem_nil, or_false, forall_eq_or_imp, forall_eq, At, and_true, Nat.zero_add, Nat.reduceAdd, List.set_cons_zero, List.set_cons_succ] at o)))
      have cb := iRouteCmp_any g c lk2 _ _ P2 M2 f b lk _ _ P M a _ h3 h4 h1 h2 hE
      rw [HB.out] at cb
      refine cb.mono ?_; rintro e wx ⟨rfl, hbx⟩
      clear cb hN hC hNN hNe
      (replace hF := hF.below hbx; (try replace h1 := Rows.below h1 hbx); (try replace h2 := Rows.below h2 hbx); (try replace h3 := Rows.below h3 hbx); (try replace h4 := Rows.below h4 hbx); (try replace h5 := Rows.below h5 hbx); (try replace h6 := Rows.below h6 hbx); (try replace hG := hG.below hbx); (try replace hE := hE.below hbx); clear hbx; (try clear o); have o := hF.own; simp only [World.size_alloc, World.size_drew, World.size_setCell, List.mem_cons, List.not_mem_nil, or_false, forall_eq_or_imp, forall_eq, At, and_true, Nat.zero_add, Nat.reduceAdd, List.set_cons_zero, List.set_cons_succ] at o)
      by_cases he : lk = lk2
      · have dne : (lk != lk2) = false := by simp [he]
        have hle : lk ≤ lk2 := by omega
        have hcn : C = 0 ∨ C = N := by
          by_cases h : C = 0
          · exact Or.inl h
          · exact Or.inr (HPc.out he h)
        clear he
        rcases HBD.out with rfl | rfl | rfl
        · have HS : Hid (decide (SameR f b lk P M g c lk2 P2 M2) = false) := decide_eq_false fun q => by have := HS0.out.2 q; omega
          rcases hcn with rfl | rfl
          all_goals
            have c2 := lyRoute_any f b lk _ _ P M g c lk2 _ _ P2 M2 _ h1 h2 h3 h4
            rw [HS.out] at c2
            go_wp2_with fail
            refine c2.mono ?_; rintro e wx ⟨rfl, hbx⟩
            clear c2
            (replace hF := hF.below hbx; (try replace h1 := Rows.below h1 hbx); (try replace h2 := Rows.below h2 hbx); (try replace h3 := Rows.below h3 hbx); (try replace h4 := Rows.below h4 hbx); (try replace h5 := Rows.below h5 hbx); (try replace h6 := Rows.below h6 hbx); (try replace hG := hG.below hbx); (try replace hE := hE.below hbx); clear hbx; (try clear o); have o := hF.own; simp only [World.size_alloc, World.size_drew, World.size_setCell, List.mem_cons, List.not_mem_nil, or_false, forall_eq_or_imp, forall_eq, At, and_true, Nat.zero_add, Nat.reduceAdd, List.set_cons_zero, List.set_cons_succ] at o)
            go_wp2
            go_ret
            exact ⟨rfl, hF.kp⟩
        · have HS : Hid (decide (SameR f b lk P M g c lk2 P2 M2) = true) := decide_eq_true (HS0.out.1 rfl)
          have hc0 : C = 0 := by omega
          clear hcn
          subst hc0
          have c2 := lyRoute_any f b lk _ _ P M g c lk2 _ _ P2 M2 _ h1 h2 h3 h4
          rw [HS.out] at c2
          go_wp2_with fail
          refine c2.mono ?_; rintro e wx ⟨rfl, hbx⟩
          clear c2
          (replace hF := hF.below hbx; (try replace h1 := Rows.below h1 hbx); (try replace h2 := Rows.below h2 hbx); (try replace h3 := Rows.below h3 hbx); (try replace h4 := Rows.below h4 hbx); (try replace h5 := Rows.below h5 hbx); (try replace h6 := Rows.below h6 hbx); (try replace hG := hG.below hbx); (try replace hE := hE.below hbx); clear hbx; (try clear o); have o := hF.own; simp only [World.size_alloc, World.size_drew, World.size_setCell, List.mem_cons, List.not_mem_nil, or_false, forall_eq_or_imp, forall_eq, At, and_true, Nat.zero_add, Nat.reduceAdd, List.set_cons_zero, List.set_cons_succ] at o)
          go_wp2
          go_ret
          exact ⟨rfl, hF.kp⟩
        · have HS : Hid (decide (SameR f b lk P M g c lk2 P2 M2) = false) := decide_eq_false fun q => by have := HS0.out.2 q; omega
          rcases hcn with rfl | rfl
          all_goals
            have c2 := lyRoute_any f b lk _ _ P M g c lk2 _ _ P2 M2 _ h1 h2 h3 h4
            rw [HS.out] at c2
            go_wp2_with fail
            refine c2.mono ?_; rintro e wx ⟨rfl, hbx⟩
            clear c2
            (replace hF := hF.below hbx; (try replace h1 := Rows.below h1 hbx); (try replace h2 := Rows.below h2 hbx); (try replace h3 := Rows.below h3 hbx); (try replace h4 := Rows.below h4 hbx); (try replace h5 := Rows.below h5 hbx); (try replace h6 := Rows.below h6 hbx); (try replace hG := hG.below hbx); (try replace hE := hE.below hbx); clear hbx; (try clear o); have o := hF.own; simp only [World.size_alloc, World.size_drew, World.size_setCell, List.mem_cons, List.not_mem_nil, or_false, forall_eq_or_imp, forall_eq, At, and_true, Nat.zero_add, Nat.reduceAdd, List.set_cons_zero, List.set_cons_succ] at o)
            go_wp2
            go_ret
            exact ⟨rfl, hF.kp⟩
      · have dne : (lk != lk2) = true := by simp [he]
        by_cases hle : lk ≤ lk2
        · clear he
          rcases HBD.out with rfl | rfl | rfl
          · have HS : Hid (decide (SameR f b lk P M g c lk2 P2 M2) = false) := decide_eq_false fun q => by have := HS0.out.2 q; omega
            have c2 := lyRoute_any f b lk _ _ P M g c lk2 _ _ P2 M2 _ h1 h2 h3 h4
            rw [HS.out] at c2
            go_wp2_with fail
            refine c2.mono ?_; rintro e wx ⟨rfl, hbx⟩
            clear c2
            (replace hF := hF.below hbx; (try replace h1 := Rows.below h1 hbx); (try replace h2 := Rows.below h2 hbx); (try replace h3 := Rows.below h3 hbx); (try replace h4 := Rows.below h4 hbx); (try replace h5 := Rows.below h5 hbx); (try replace h6 := Rows.below h6 hbx); (try replace hG := hG.below hbx); (try replace hE := hE.below hbx); clear hbx; (try clear o); have o := hF.own; simp only [World.size_alloc, World.size_drew, World.size_setCell, List.mem_cons, List.not_mem_nil, or_false, forall_eq_or_imp, forall_eq, At, and_true, Nat.zero_add, Nat.reduceAdd, List.set_cons_zero, List.set_cons_succ] at o)
            go_wp2
            go_ret
            exact ⟨rfl, hF.kp⟩
          · have HS : Hid (decide (SameR f b lk P M g c lk2 P2 M2) = true) := decide_eq_true (HS0.out.1 rfl)
            have c2 := lyRoute_any f b lk _ _ P M g c lk2 _ _ P2 M2 _ h1 h2 h3 h4
            rw [HS.out] at c2
            go_wp2_with fail
            refine c2.mono ?_; rintro e wx ⟨rfl, hbx⟩
            clear c2
            (replace hF := hF.below hbx; (try replace h1 := Rows.below h1 hbx); (try replace h2 := Rows.below h2 hbx); (try replace h3 := Rows.below h3 hbx); (try replace h4 := Rows.below h4 hbx); (try replace h5 := Rows.below h5 hbx); (try replace h6 := Rows.below h6 hbx); (try replace hG := hG.below hbx); (try replace hE := hE.below hbx); clear hbx; (try clear o); have o := hF.own; simp only [World.size_alloc, World.size_drew, World.size_setCell, List.mem_cons, List.not_mem_nil, or_false, forall_eq_or_imp, forall_eq, At, and_true, Nat.zero_add, Nat.reduceAdd, List.set_cons_zero, List.set_cons_succ] at o)
            go_wp2
            go_ret
            exact ⟨rfl, hF.kp⟩
          · have HS : Hid (decide (SameR f b lk P M g c lk2 P2 M2) = false) := decide_eq_false fun q => by have := HS0.out.2 q; omega
            have c2 := lyRoute_any f b lk _ _ P M g c lk2 _ _ P2 M2 _ h1 h2 h3 h4
            rw [HS.out] at c2
            go_wp2_with fail
            refine c2.mono ?_; rintro e wx ⟨rfl, hbx⟩
            clear c2
            (replace hF := hF.below hbx; (try replace h1 := Rows.below h1 hbx); (try replace h2 := Rows.below h2 hbx); (try replace h3 := Rows.below h3 hbx); (try replace h4 := Rows.below h4 hbx); (try replace h5 := Rows.below h5 hbx); (try replace h6 := Rows.below h6 hbx); (try replace hG := hG.below hbx); (try replace hE := hE.below hbx); clear hbx; (try clear o); have o := hF.own; simp only [World.size_alloc, World.size_drew, World.size_setCell, List.mem_cons, List.not_mem_nil, or_false, forall_eq_or_imp, forall_eq, At, and_true, Nat.zero_add, Nat.reduceAdd, List.set_cons_zero, List.set_cons_succ] at o)
            go_wp2
            go_ret
            exact ⟨rfl, hF.kp⟩
        · have hn1 := HLk.out (by omega)
          subst hn1
          clear he
          have HS : Hid (decide (SameR f b lk P M g c lk2 P2 M2) = false) := decide_eq_false fun q => by have := HS0.out.2 q; omega
          have c2 := lyRoute_any f b lk _ _ P M g c lk2 _ _ P2 M2 _ h1 h2 h3 h4
          rw [HS.out] at c2
          go_wp2_with fail
          refine c2.mono ?_; rintro e wx ⟨rfl, hbx⟩
          clear c2
          (replace hF := hF.below hbx; (try replace h1 := Rows.below h1 hbx); (try replace h2 := Rows.below h2 hbx); (try replace h3 := Rows.below h3 hbx); (try replace h4 := Rows.below h4 hbx); (try replace h5 := Rows.below h5 hbx); (try replace h6 := Rows.below h6 hbx); (try replace hG := hG.below hbx); (try replace hE := hE.below hbx); clear hbx; (try clear o); have o := hF.own; simp only [World.size_alloc, World.size_drew, World.size_setCell, List.mem_cons, List.not_mem_nil, or_false, forall_eq_or_imp, forall_eq, At, and_true, Nat.zero_add, Nat.reduceAdd, List.set_cons_zero, List.set_cons_succ] at o)
          go_wp2
          go_ret
          exact ⟨rfl, hF.kp⟩
    · have d2 : decide (RtOk g c P2 lk2 M2) = false := by simp [p2]
      clear p1 p2
      go_wp2_with (first | (go_at_call 30; go_must (refine (iRouteCmp_any f b lk _ _ P M g c lk2 _ _ P2 M2 a _ h1 h2 h3 h4 hE).mono ?_); rintro e wx ⟨rfl, hbx⟩; (replace hF := hF.below hbx; (try replace h1 := Rows.below h1 hbx); (try replace h2 := Rows.below h2 hbx); (try replace h3 := Rows.below h3 hbx); (try replace h4 := Rows.below h4 hbx); (try replace h5 := Rows.below h5 hbx); (try replace h6 := Rows.below h6 hbx); (try replace hG := hG.below hbx); (try replace hE := hE.below hbx); clear hbx; (try clear o); have o := hF.own; simp only [World.size_alloc, World.size_drew, World.size_setCell, List.mem_cons, List.not_mem_nil, or_false, forall_eq_or_imp, forall_eq, At, and_true, Nat.zero_add, Nat.reduceAdd, List.set_cons_zero, List.set_cons_succ] at o)) | (go_at_call 31; go_must (refine (sRouteCmp_any f b lk _ _ P M g c lk2 _ _ P2 M2 _ h1 h2 h3 h4).mono ?_); rintro e wx ⟨rfl, hbx⟩; (replace hF := hF.below hbx; (try replace h1 := Rows.below h1 hbx); (try replace h2 := Rows.below h2 hbx); (try replace h3 := Rows.below h3 hbx); (try replace h4 := Rows.below h4 hbx); (try replace h5 := Rows.below h5 hbx); (try replace h6 := Rows.below h6 hbx); (try replace hG := hG.below hbx); (try replace hE := hE.below hbx); clear hbx; (try clear o); have o := hF.own; simp only [World.size_alloc, World.size_drew, World.size_setCell, List.mem_cons, List.not_mem_nil, or_false, forall_eq_or_imp, forall_eq, At, and_true, Nat.zero_add, Nat.reduceAdd, List.set_cons_zero, List.set_cons_succ] at o)) | (go_at_call 14; clear tok1; go_must (refine (sRouteOk_any f b lk _ _ P M _ h1 h2).mono ?_); rintro e wx ⟨rfl, hbx⟩; (replace hF := hF.below hbx; (try replace h1 := Rows.below h1 hbx); (try replace h2 := Rows.below h2 hbx); (try replace h3 := Rows.below h3 hbx); (try replace h4 := Rows.below h4 hbx); (try replace h5 := Rows.below h5 hbx); (try replace h6 := Rows.below h6 hbx); (try replace hG := hG.below hbx); (try replace hE := hE.below hbx); clear hbx; (try clear o); have o := hF.own; simp only [World.size_alloc, World.size_drew, World.size_setCell, List.mem_cons, List.not_mem_nil, or_false, forall_eq_or_imp, forall_eq, At, and_true, Nat.zero_add, Nat.reduceAdd, List.set_cons_zero, List.set_cons_succ] at o)) | (go_at_call 14; go_must (refine (sRouteOk_any g c lk2 _ _ P2 M2 _ h3 h4).mono ?_); rintro e wx ⟨rfl, hbx⟩; (replace hF := hF.below hbx; (try replace h1 := Rows.below h1 hbx); (try replace h2 := Rows.below h2 hbx); (try replace h3 := Rows.below h3 hbx); (try replace h4 := Rows.below h4 hbx); (try replace h5 := Rows.below h5 hbx); (try replace h6 := Rows.below h6 hbx); (try replace hG := hG.below hbx); (try replace hE := hE.below hbx); clear hbx; (try clear o); have o := hF.own; simp only [World.size_alloc, World.size_drew, World.size_setCell, List.mem_cons, List.not_mem_nil, or_false, forall_eq_or_imp, forall_eq, At, and_true, Nat.zero_add, Nat.reduceAdd, List.set_cons_zero, List.set_cons_succ] at o)))
      go_ret
      exact ⟨rfl, hF.kp⟩
  · have d1 : decide (RtOk f b P lk M) = false := by simp [p1]
    clear p1
    go_wp2_with (first | (go_at_call 30; go_must (refine (iRouteCmp_any f b lk _ _ P M g c lk2 _ _ P2 M2 a _ h1 h2 h3 h4 hE).mono ?_); rintro e wx ⟨rfl, hbx⟩; (replace hF := hF.below hbx; (try replace h1 := Rows.below h1 hbx); (try replace h2 := Rows.below h2 hbx); (try replace h3 := Rows.below h3 hbx); (try replace h4 := Rows.below h4 hbx); (try replace h5 := Rows.below h5 hbx); (try replace h6 := Rows.below h6 hbx); (try replace hG := hG.below hbx); (try replace hE := hE.below hbx); clear hbx; (try clear o); have o := hF.own; simp only [World.size_alloc, World.size_drew, World.size_setCell, List.mem_cons, List.not_mem_nil, or_false, forall_eq_or_imp, forall_eq, At, and_true, Nat.zero_add, Nat.reduceAdd, List.set_cons_zero, List.set_cons_succ] at o)) | (go_at_call 31; go_must (refine (sRouteCmp_any f b lk _ _ P M g c lk2 _ _ P2 M2 _ h1 h2 h3 h4).mono ?_); rintro e wx ⟨rfl, hbx⟩; (replace hF := hF.below hbx; (try replace h1 := Rows.below h1 hbx); (try replace h2 := Rows.below h2 hbx); (try replace h3 := Rows.below h3 hbx); (try replace h4 := Rows.below h4 hbx); (try replace h5 := Rows.below h5 hbx); (try replace h6 := Rows.below h6 hbx); (try replace hG := hG.below hbx); (try replace hE := hE.below hbx); clear hbx; (try clear o); have o := hF.own; simp only [World.size_alloc, World.size_drew, World.size_setCell, List.mem_cons, List.not_mem_nil, or_false, forall_eq_or_imp, forall_eq, At, and_true, Nat.zero_add, Nat.reduceAdd, List.set_cons_zero, List.set_cons_succ] at o)) | (go_at_call 14; go_must (refine (sRouteOk_any f b lk _ _ P M _ h1 h2).mono ?_); rintro e wx ⟨rfl, hbx⟩; (replace hF := hF.below hbx; (try replace h1 := Rows.below h1 hbx); (try replace h2 := Rows.below h2 hbx); (try replace h3 := Rows.below h3 hbx); (try replace h4 := Rows.below h4 hbx); (try replace h5 := Rows.below h5 hbx); (try replace h6 := Rows.below h6 hbx); (try replace hG := hG.below hbx); (try replace hE := hE.below hbx); clear hbx; (try clear o); have o := hF.own; simp only [World.size_alloc, World.size_drew, World.size_setCell, List.mem_cons, List.not_mem_nil, or_false, forall_eq_or_imp, forall_eq, At, and_true, Nat.zero_add, Nat.reduceAdd, List.set_cons_zero, List.set_cons_succ] at o)))
    go_ret
    exact ⟨rfl, hF.kp⟩
end Go.Proofs.YtgegmampnpgcaaaDoor
