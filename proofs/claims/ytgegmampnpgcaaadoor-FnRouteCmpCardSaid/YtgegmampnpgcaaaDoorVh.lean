/- FnRouteThree: the walk. -/
import Derived.Test.YtgegmampnpgcaaaDoorVg
import Derived.Test.YtgegmampnpgcaaaDoorEo
set_option linter.unusedSimpArgs false
set_option linter.unusedVariables false
namespace Go.Proofs.YtgegmampnpgcaaaDoor
open Go.RowKit

theorem rcmp_m1 {f b g c : Int} : rcmp f b g c = -1 ↔ f < g ∨ f = g ∧ b < c := by unfold rcmp icmp; (repeat' split) <;> omega
theorem rcmp_z {f b g c : Int} : rcmp f b g c = 0 ↔ f = g ∧ b = c := by unfold rcmp icmp; (repeat' split) <;> omega
theorem orz_step {a b c x y z : Int} (ht : a = -1 → b = -1 → c = -1) (h1 : a = 0 → c = b) (h2 : b = 0 → c = a) (hd : x = -1 → y = -1 → z = -1) (p : orz a x = -1) (q : orz b y = -1) : orz c z = -1 := by
  unfold orz at *
  by_cases ha : a = 0
  · rw [if_pos ha] at p
    have hc := h1 ha
    by_cases hb : b = 0
    · rw [if_pos hb] at q; rw [if_pos (by omega)]; exact hd p q
    · rw [if_neg hb] at q; rw [if_neg (by omega)]; omega
  · rw [if_neg ha] at p
    by_cases hb : b = 0
    · have hc := h2 hb; rw [if_neg (by omega)]; omega
    · rw [if_neg hb] at q; have := ht p q; rw [if_neg (by omega)]; exact this
theorem rts_trans {f b lk g c lk2 h d lk3 : Int} {P M P2 M2 P3 M3 : List Int} (h1 : rts f b lk P M g c lk2 P2 M2 = -1) (h2 : rts g c lk2 P2 M2 h d lk3 P3 M3 = -1) : rts f b lk P M h d lk3 P3 M3 = -1 := by
  unfold rts at *
  refine orz_step (fun x y => ?_) (fun x => ?_) (fun x => ?_) (fun x y => ?_) h1 h2
  · have := icmp_neg1.1 x; have := icmp_neg1.1 y; exact icmp_neg1.2 (by omega)
  · rw [icmp_0.1 x]
  · rw [icmp_0.1 x]
  · refine orz_step (fun x y => pcmp_trans x y) (fun x => ?_) (fun x => ?_) (fun x y => ?_) x y
    · rw [pcmp_0.1 x]
    · rw [pcmp_0.1 x]
    · refine orz_step (fun x y => ?_) (fun x => ?_) (fun x => ?_) (fun x y => pcmp_trans x y) x y
      · have := rcmp_m1.1 x; have := rcmp_m1.1 y; exact rcmp_m1.2 (by omega)
      · obtain ⟨e1, e2⟩ := rcmp_z.1 x; rw [e1, e2]
      · obtain ⟨e1, e2⟩ := rcmp_z.1 x; rw [e1, e2]
theorem RT_ok {f b lk g c lk2 : Int} {P M P2 M2 : List Int} (h1 : RtOk f b P lk M) (h2 : RtOk g c P2 lk2 M2) : RT f b lk P M g c lk2 P2 M2 = rts f b lk P M g c lk2 P2 M2 := (if_pos ⟨h1, h2⟩).trans (rts_is h1 h2).symm
set_option maxHeartbeats 4000000 in
theorem FnRouteThree_walk (a0 a1 : Option Addr) (n0 c0 n1 c1 : Nat) (a : Addr) (w : World) (h0 : Given w (.slice a0 n0 c0)) (hG : Given w (.slice a1 n1 c1)) (hE : EPath w a) :
    Calls Tryd.prog 9 #[.slice a0 n0 c0, .slice a1 n1 c1] w fun e w' => e = .returned (.bool true) ∧ Below w.heap.size w w' := by
  by_cases hn0 : 1048576 < n0
  · have e0 : decide (1048576 < (n0 : Int)) = true := by simp; omega
    go_enter Tryd.func9, Tryd.ntmps9
    go_wp2
    go_ret
    exact ⟨rfl, Below.refl _ _⟩
  have e0 : decide (1048576 < (n0 : Int)) = false := by simp; omega
  by_cases hn1 : 1048576 < n1
  · have e1 : decide (1048576 < (n1 : Int)) = true := by simp; omega
    go_enter Tryd.func9, Tryd.ntmps9
    go_wp2
    go_ret
    exact ⟨rfl, Below.refl _ _⟩
  have e1 : decide (1048576 < (n1 : Int)) = false := by simp; omega
  have hF := Fb.start w
  go_enter Tryd.func9, Tryd.ntmps9
  go_wp2_with fail
  refine (drawRouteCmp_any _ _ h0).mono ?_; rintro e w1 ⟨f, b, lk, pv, mv, P, M, g, c, lk2, pv2, mv2, P2, M2, rfl, h1, h2, h3, h4, hb1⟩
  replace h1 := h1.1
  replace h2 := h2.1
  replace h3 := h3.1
  replace h4 := h4.1
  obtain ⟨o1, k1, rfl, -⟩ := h1.ex
  obtain ⟨o2, k2, rfl, -⟩ := h2.ex
  obtain ⟨o3, k3, rfl, -⟩ := h3.ex
  obtain ⟨o4, k4, rfl, -⟩ := h4.ex
  replace hF := hF.below hb1
  replace hE := hE.below hb1
  replace hG := hG.below hb1
  clear hb1 h0
  have hb2 := ((Below.refl w1.heap.size w1).alloc (Nat.le_refl _) (.cells #[.int .i64 f, .int .i64 b, .slice o1 P.length k1, .int .i64 lk, .slice o2 M.length k2] 29)).alloc (by simp) (.cells #[.int .i64 g, .int .i64 c, .slice o3 P2.length k3, .int .i64 lk2, .slice o4 M2.length k4] 29)
  replace hF := (hF.alloc [.int .i64 f, .int .i64 b, .slice o1 P.length k1, .int .i64 lk, .slice o2 M.length k2] 29).alloc [.int .i64 g, .int .i64 c, .slice o3 P2.length k3, .int .i64 lk2, .slice o4 M2.length k4] 29
  replace h1 := Rows.below h1 hb2
  replace h2 := Rows.below h2 hb2
  replace h3 := Rows.below h3 hb2
  replace h4 := Rows.below h4 hb2
  replace hE := hE.below hb2
  replace hG := hG.below hb2
  clear hb2
  simp only [World.size_alloc] at hF
  obtain ⟨n5, hn5⟩ : ∃ n, w1.heap.size = n := ⟨_, rfl⟩
  rw [hn5] at hF
  have o := hF.own; simp only [World.size_alloc, World.size_drew, World.size_setCell, List.mem_cons, List.not_mem_nil, or_false, forall_eq_or_imp, forall_eq, At, and_true, Nat.zero_add, Nat.reduceAdd, List.set_cons_zero, List.set_cons_succ] at o
  obtain ⟨N, hN⟩ : ∃ N, RT f b lk P M g c lk2 P2 M2 = N := ⟨_, rfl⟩
  have hNN : (N != N) = false := by simp
  have hNe : (N == N) = true := by simp
  have tok1 : True := trivial
  have tok2 : True := trivial
  by_cases p1 : RtOk f b P lk M
  · have d1 : decide (RtOk f b P lk M) = true := by simp [p1]
    by_cases p2 : RtOk g c P2 lk2 M2
    · have d2 : decide (RtOk g c P2 lk2 M2) = true := by simp [p2]
      have HN : Hid (rts f b lk P M g c lk2 P2 M2 = N) := (RT_ok p1 p2).symm.trans hN
      have Q1 := Lib.hid p1
      have Q2 := Lib.hid p2
      clear p1 p2
      go_wp2_with (first | (go_at_call 30; go_must (refine (iRouteCmp_any f b lk _ _ P M g c lk2 _ _ P2 M2 a _ h1 h2 h3 h4 hE).mono ?_); rintro e wx ⟨rfl, hbx⟩; (replace hF := hF.below hbx; (try replace h1 := Rows.below h1 hbx); (try replace h2 := Rows.below h2 hbx); (try replace h3 := Rows.below h3 hbx); (try replace h4 := Rows.below h4 hbx); (try replace h5 := Rows.below h5 hbx); (try replace h6 := Rows.below h6 hbx); (try replace hG := hG.below hbx); (try replace hE := hE.below hbx); clear hbx; (try clear o); have o := hF.own; simp only [World.size_alloc, World.size_drew, World.size_setCell, List.mem_cons, List.not_mem_nil, or_false, forall_eq_or_imp, forall_eq, At, and_true, Nat.zero_add, Nat.reduceAdd, List.set_cons_zero, List.set_cons_succ] at o)) | (go_at_call 31; go_must (refine (sRouteCmp_any f b lk _ _ P M g c lk2 _ _ P2 M2 _ h1 h2 h3 h4).mono ?_); rintro e wx ⟨rfl, hbx⟩; (replace hF := hF.below hbx; (try replace h1 := Rows.below h1 hbx); (try replace h2 := Rows.below h2 hbx); (try replace h3 := Rows.below h3 hbx); (try replace h4 := Rows.below h4 hbx); (try replace h5 := Rows.below h5 hbx); (try replace h6 := Rows.below h6 hbx); (try replace hG := hG.below hbx); (try replace hE := hE.below hbx); clear hbx; (try clear o); have o := hF.own; simp only [World.size_alloc, World.size_drew, World.size_setCell, List.mem_cons, List.not_mem_nil, or_false, forall_eq_or_imp, forall_eq, At, and_true, Nat.zero_add, Nat.reduceAdd, List.set_cons_zero, List.set_cons_succ] at o)) | (go_at_call 14; clear tok1; go_must (refine (sRouteOk_any f b lk _ _ P M _ h1 h2).mono ?_); rintro e wx ⟨rfl, hbx⟩; (replace hF := hF.below hbx; (try replace h1 := Rows.below h1 hbx); (try replace h2 := Rows.below h2 hbx); (try replace h3 := Rows.below h3 hbx); (try replace h4 := Rows.below h4 hbx); (try replace h5 := Rows.below h5 hbx); (try replace h6 := Rows.below h6 hbx); (try replace hG := hG.below hbx); (try replace hE := hE.below hbx); clear hbx; (try clear o); have o := hF.own; simp only [World.size_alloc, World.size_drew, World.size_setCell, List.mem_cons, List.not_mem_nil, or_false, forall_eq_or_imp, forall_eq, At, and_true, Nat.zero_add, Nat.reduceAdd, List.set_cons_zero, List.set_cons_succ] at o)) | (go_at_call 14; go_must (refine (sRouteOk_any g c lk2 _ _ P2 M2 _ h3 h4).mono ?_); rintro e wx ⟨rfl, hbx⟩; (replace hF := hF.below hbx; (try replace h1 := Rows.below h1 hbx); (try replace h2 := Rows.below h2 hbx); (try replace h3 := Rows.below h3 hbx); (try replace h4 := Rows.below h4 hbx); (try replace h5 := Rows.below h5 hbx); (try replace h6 := Rows.below h6 hbx); (try replace hG := hG.below hbx); (try replace hE := hE.below hbx); clear hbx; (try clear o); have o := hF.own; simp only [World.size_alloc, World.size_drew, World.size_setCell, List.mem_cons, List.not_mem_nil, or_false, forall_eq_or_imp, forall_eq, At, and_true, Nat.zero_add, Nat.reduceAdd, List.set_cons_zero, List.set_cons_succ] at o)))
      refine (drawRouteText_any _ _ hG).mono ?_; rintro e w3 ⟨h, d, lk3, pv3, mv3, P3, M3, rfl, h5, h6, -, -, hb3⟩
      replace h5 := h5.1
      replace h6 := h6.1
      obtain ⟨o5, k5, rfl, -⟩ := h5.ex
      obtain ⟨o6, k6, rfl, -⟩ := h6.ex
      have hb4 := hb3.trans (((Below.refl w3.heap.size w3).alloc (Nat.le_refl _) (.cells #[.int .i64 h, .int .i64 d, .slice o5 P3.length k5, .int .i64 lk3, .slice o6 M3.length k6] 29)).mono hb3.size)
      have hb5 := (Below.refl w3.heap.size w3).alloc (Nat.le_refl _) (.cells #[.int .i64 h, .int .i64 d, .slice o5 P3.length k5, .int .i64 lk3, .slice o6 M3.length k6] 29)
      replace hF := (hF.below hb3).alloc [.int .i64 h, .int .i64 d, .slice o5 P3.length k5, .int .i64 lk3, .slice o6 M3.length k6] 29
      replace hE := hE.below hb4
      replace h1 := Rows.below h1 hb4
      replace h2 := Rows.below h2 hb4
      replace h3 := Rows.below h3 hb4
      replace h4 := Rows.below h4 hb4
      replace h5 := Rows.below h5 hb5
      replace h6 := Rows.below h6 hb5
      clear hb3 hb4 hb5 hG hN o
      obtain ⟨n8, hn8⟩ : ∃ n, w3.heap.size = n := ⟨_, rfl⟩
      rw [hn8] at hF
      have o := hF.own; simp only [World.size_alloc, World.size_drew, World.size_setCell, List.mem_cons, List.not_mem_nil, or_false, forall_eq_or_imp, forall_eq, At, and_true, Nat.zero_add, Nat.reduceAdd, List.set_cons_zero, List.set_cons_succ] at o
      by_cases p3 : RtOk h d P3 lk3 M3
      · have d3 : decide (RtOk h d P3 lk3 M3) = true := by simp [p3]
        by_cases hn : N = -1
        · subst hn
          obtain ⟨N2, hN2⟩ : ∃ N2, RT g c lk2 P2 M2 h d lk3 P3 M3 = N2 := ⟨_, rfl⟩
          have HN2 : Hid (rts g c lk2 P2 M2 h d lk3 P3 M3 = N2) := (RT_ok Q2.out p3).symm.trans hN2
          by_cases hn2 : N2 = -1
          · subst hn2
            have h13 : RT f b lk P M h d lk3 P3 M3 = -1 := (RT_ok Q1.out p3).trans (rts_trans HN.out HN2.out)
            clear p3
            go_wp2_with (first | (go_at_call 34; go_must (refine (iRouteOk_any h d lk3 _ _ P3 M3 a _ h5 h6 hE).mono ?_); rintro e wx ⟨rfl, hbx⟩; (replace hF := hF.below hbx; (try replace h1 := Rows.below h1 hbx); (try replace h2 := Rows.below h2 hbx); (try replace h3 := Rows.below h3 hbx); (try replace h4 := Rows.below h4 hbx); (try replace h5 := Rows.below h5 hbx); (try replace h6 := Rows.below h6 hbx); (try replace hG := hG.below hbx); (try replace hE := hE.below hbx); clear hbx; (try clear o); have o := hF.own; simp only [World.size_alloc, World.size_drew, World.size_setCell, List.mem_cons, List.not_mem_nil, or_false, forall_eq_or_imp, forall_eq, At, and_true, Nat.zero_add, Nat.reduceAdd, List.set_cons_zero, List.set_cons_succ] at o)) | (go_at_call 30; clear tok2; go_must (refine (iRouteCmp_any g c lk2 _ _ P2 M2 h d lk3 _ _ P3 M3 a _ h3 h4 h5 h6 hE).mono ?_); rintro e wx ⟨rfl, hbx⟩; (replace hF := hF.below hbx; (try replace h1 := Rows.below h1 hbx); (try replace h2 := Rows.below h2 hbx); (try replace h3 := Rows.below h3 hbx); (try replace h4 := Rows.below h4 hbx); (try replace h5 := Rows.below h5 hbx); (try replace h6 := Rows.below h6 hbx); (try replace hG := hG.below hbx); (try replace hE := hE.below hbx); clear hbx; (try clear o); have o := hF.own; simp only [World.size_alloc, World.size_drew, World.size_setCell, List.mem_cons, List.not_mem_nil, or_false, forall_eq_or_imp, forall_eq, At, and_true, Nat.zero_add, Nat.reduceAdd, List.set_cons_zero, List.set_cons_succ] at o)) | (go_at_call 30; go_must (refine (iRouteCmp_any f b lk _ _ P M h d lk3 _ _ P3 M3 a _ h1 h2 h5 h6 hE).mono ?_); rintro e wx ⟨rfl, hbx⟩; (replace hF := hF.below hbx; (try replace h1 := Rows.below h1 hbx); (try replace h2 := Rows.below h2 hbx); (try replace h3 := Rows.below h3 hbx); (try replace h4 := Rows.below h4 hbx); (try replace h5 := Rows.below h5 hbx); (try replace h6 := Rows.below h6 hbx); (try replace hG := hG.below hbx); (try replace hE := hE.below hbx); clear hbx; (try clear o); have o := hF.own; simp only [World.size_alloc, World.size_drew, World.size_setCell, List.mem_cons, List.not_mem_nil, or_false, forall_eq_or_imp, forall_eq, At, and_true, Nat.zero_add, Nat.reduceAdd, List.set_cons_zero, List.set_cons_succ] at o)))
            go_ret
            exact ⟨rfl, hF.kp⟩
          · have dn : (N2 != -1) = true := by simp [hn2]
            clear p3 hn2
            go_wp2_with (first | (go_at_call 34; go_must (refine (iRouteOk_any h d lk3 _ _ P3 M3 a _ h5 h6 hE).mono ?_); rintro e wx ⟨rfl, hbx⟩; (replace hF := hF.below hbx; (try replace h1 := Rows.below h1 hbx); (try replace h2 := Rows.below h2 hbx); (try replace h3 := Rows.below h3 hbx); (try replace h4 := Rows.below h4 hbx); (try replace h5 := Rows.below h5 hbx); (try replace h6 := Rows.below h6 hbx); (try replace hG := hG.below hbx); (try replace hE := hE.below hbx); clear hbx; (try clear o); have o := hF.own; simp only [World.size_alloc, World.size_drew, World.size_setCell, List.mem_cons, List.not_mem_nil, or_false, forall_eq_or_imp, forall_eq, At, and_true, Nat.zero_add, Nat.reduceAdd, List.set_cons_zero, List.set_cons_succ] at o)) | (go_at_call 30; clear tok2; go_must (refine (iRouteCmp_any g c lk2 _ _ P2 M2 h d lk3 _ _ P3 M3 a _ h3 h4 h5 h6 hE).mono ?_); rintro e wx ⟨rfl, hbx⟩; (replace hF := hF.below hbx; (try replace h1 := Rows.below h1 hbx); (try replace h2 := Rows.below h2 hbx); (try replace h3 := Rows.below h3 hbx); (try replace h4 := Rows.below h4 hbx); (try replace h5 := Rows.below h5 hbx); (try replace h6 := Rows.below h6 hbx); (try replace hG := hG.below hbx); (try replace hE := hE.below hbx); clear hbx; (try clear o); have o := hF.own; simp only [World.size_alloc, World.size_drew, World.size_setCell, List.mem_cons, List.not_mem_nil, or_false, forall_eq_or_imp, forall_eq, At, and_true, Nat.zero_add, Nat.reduceAdd, List.set_cons_zero, List.set_cons_succ] at o)))
            go_ret
            exact ⟨rfl, hF.kp⟩
        · have dn : (N != -1) = true := by simp [hn]
          clear p3 hn
          go_wp2_with (first | (go_at_call 34; go_must (refine (iRouteOk_any h d lk3 _ _ P3 M3 a _ h5 h6 hE).mono ?_); rintro e wx ⟨rfl, hbx⟩; (replace hF := hF.below hbx; (try replace h1 := Rows.below h1 hbx); (try replace h2 := Rows.below h2 hbx); (try replace h3 := Rows.below h3 hbx); (try replace h4 := Rows.below h4 hbx); (try replace h5 := Rows.below h5 hbx); (try replace h6 := Rows.below h6 hbx); (try replace hG := hG.below hbx); (try replace hE := hE.below hbx); clear hbx; (try clear o); have o := hF.own; simp only [World.size_alloc, World.size_drew, World.size_setCell, List.mem_cons, List.not_mem_nil, or_false, forall_eq_or_imp, forall_eq, At, and_true, Nat.zero_add, Nat.reduceAdd, List.set_cons_zero, List.set_cons_succ] at o)))
          go_ret
          exact ⟨rfl, hF.kp⟩
      · have d3 : decide (RtOk h d P3 lk3 M3) = false := by simp [p3]
        clear p3
        go_wp2_with (first | (go_at_call 34; go_must (refine (iRouteOk_any h d lk3 _ _ P3 M3 a _ h5 h6 hE).mono ?_); rintro e wx ⟨rfl, hbx⟩; (replace hF := hF.below hbx; (try replace h1 := Rows.below h1 hbx); (try replace h2 := Rows.below h2 hbx); (try replace h3 := Rows.below h3 hbx); (try replace h4 := Rows.below h4 hbx); (try replace h5 := Rows.below h5 hbx); (try replace h6 := Rows.below h6 hbx); (try replace hG := hG.below hbx); (try replace hE := hE.below hbx); clear hbx; (try clear o); have o := hF.own; simp only [World.size_alloc, World.size_drew, World.size_setCell, List.mem_cons, List.not_mem_nil, or_false, forall_eq_or_imp, forall_eq, At, and_true, Nat.zero_add, Nat.reduceAdd, List.set_cons_zero, List.set_cons_succ] at o)))
        go_ret
        exact ⟨rfl, hF.kp⟩
    · have d2 : decide (RtOk g c P2 lk2 M2) = false := by simp [p2]
      clear p1 p2
      go_wp2_with (first | (go_at_call 30; go_must (refine (iRouteCmp_any f b lk _ _ P M g c lk2 _ _ P2 M2 a _ h1 h2 h3 h4 hE).mono ?_); rintro e wx ⟨rfl, hbx⟩; (replace hF := hF.below hbx; (try replace h1 := Rows.below h1 hbx); (try replace h2 := Rows.below h2 hbx); (try replace h3 := Rows.below h3 hbx); (try replace h4 := Rows.below h4 hbx); (try replace h5 := Rows.below h5 hbx); (try replace h6 := Rows.below h6 hbx); (try replace hG := hG.below hbx); (try replace hE := hE.below hbx); clear hbx; (try clear o); have o := hF.own; simp only [World.size_alloc, World.size_drew, World.size_setCell, List.mem_cons, List.not_mem_nil, or_false, forall_eq_or_imp, forall_eq, At, and_true, Nat.zero_add, Nat.reduceAdd, List.set_cons_zero, List.set_cons_succ] at o)) | (go_at_call 31; go_must (refine (sRouteCmp_any f b lk _ _ P M g c lk2 _ _ P2 M2 _ h1 h2 h3 h4).mono ?_); rintro e wx ⟨rfl, hbx⟩; (replace hF := hF.below hbx; (try replace h1 := Rows.below h1 hbx); (try replace h2 := Rows.below h2 hbx); (try replace h3 := Rows.below h3 hbx); (try replace h4 := Rows.below h4 hbx); (try replace h5 := Rows.below h5 hbx); (try replace h6 := Rows.below h6 hbx); (try replace hG := hG.below hbx); (try replace hE := hE.below hbx); clear hbx; (try clear o); have o := hF.own; simp only [World.size_alloc, World.size_drew, World.size_setCell, List.mem_cons, List.not_mem_nil, or_false, forall_eq_or_imp, forall_eq, At, and_true, Nat.zero_add, Nat.reduceAdd, List.set_cons_zero, List.set_cons_succ] at o)) | (go_at_call 14; clear tok1; go_must (refine (sRouteOk_any f b lk _ _ P M _ h1 h2).mono ?_); rintro e wx ⟨rfl, hbx⟩; (replace hF := hF.below hbx; (try replace h1 := Rows.below h1 hbx); (try replace h2 := Rows.below h2 hbx); (try replace h3 := Rows.below h3 hbx); (try replace h4 := Rows.below h4 hbx); (try replace h5 := Rows.below h5 hbx); (try replace h6 := Rows.below h6 hbx); (try replace hG := hG.below hbx); (try replace hE := hE.below hbx); clear hbx; (try clear o); have o := hF.own; simp only [World.size_alloc, World.size_drew, World.size_setCell, List.mem_cons, List.not_mem_nil, or_false, forall_eq_or_imp, forall_eq, At, and_true, Nat.zero_add, Nat.reduceAdd, List.set_cons_zero, List.set_cons_succ] at o)) | (go_at_call 14; go_must (refine (sRouteOk_any g c lk2 _ _ P2 M2 _ h3 h4).mono ?_); rintro e wx ⟨rfl, hbx⟩; (replace hF := hF.below hbx; (try replace h1 := Rows.below h1 hbx); (try replace h2 := Rows.below h2 hbx); (try replace h3 := Rows.below h3 hbx); (try replace h4 := Rows.below h4 hbx); (try replace h5 := Rows.below h5 hbx); (try replace h6 := Rows.below h6 hbx); (try replace hG := hG.below hbx); (try replace hE := hE.below hbx); clear hbx; (try clear o); have o := hF.own; simp only [World.size_alloc, World.size_drew, World.size_setCell, List.mem_cons, List.not_mem_nil, or_false, forall_eq_or_imp, forall_eq, At, and_true, Nat.zero_add, Nat.reduceAdd, List.set_cons_zero, List.set_cons_succ] at o)))
      go_ret
      exact ⟨rfl, hF.kp⟩
  · have d1 : decide (RtOk f b P lk M) = false := by simp [p1]
    clear p1
    go_wp2_with (first | (go_at_call 30; go_must (refine (iRouteCmp_any f b lk _ _ P M g c lk2 _ _ P2 M2 a _ h1 h2 h3 h4 hE).mono ?_); rintro e wx ⟨rfl, hbx⟩; (replace hF := hF.below hbx; (try replace h1 := Rows.below h1 hbx); (try replace h2 := Rows.below h2 hbx); (try replace h3 := Rows.below h3 hbx); (try replace h4 := Rows.below h4 hbx); (try replace h5 := Rows.below h5 hbx); (try replace h6 := Rows.below h6 hbx); (try replace hG := hG.below hbx); (try replace hE := hE.below hbx); clear hbx; (try clear o); have o := hF.own; simp only [World.size_alloc, World.size_drew, World.size_setCell, List.mem_cons, List.not_mem_nil, or_false, forall_eq_or_imp, forall_eq, At, and_true, Nat.zero_add, Nat.reduceAdd, List.set_cons_zero, List.set_cons_succ] at o)) | (go_at_call 31; go_must (refine (sRouteCmp_any f b lk _ _ P M g c lk2 _ _ P2 M2 _ h1 h2 h3 h4).mono ?_); rintro e wx ⟨rfl, hbx⟩; (replace hF := hF.below hbx; (try replace h1 := Rows.below h1 hbx); (try replace h2 := Rows.below h2 hbx); (try replace h3 := Rows.below h3 hbx); (try replace h4 := Rows.below h4 hbx); (try replace h5 := Rows.below h5 hbx); (try replace h6 := Rows.below h6 hbx); (try replace hG := hG.below hbx); (try replace hE := hE.below hbx); clear hbx; (try clear o); have o := hF.own; simp only [World.size_alloc, World.size_drew, World.size_setCell, List.mem_cons, List.not_mem_nil, or_false, forall_eq_or_imp, forall_eq, At, and_true, Nat.zero_add, Nat.reduceAdd, List.set_cons_zero, List.set_cons_succ] at o)) | (go_at_call 14; go_must (refine (sRouteOk_any f b lk _ _ P M _ h1 h2).mono ?_); rintro e wx ⟨rfl, hbx⟩; (replace hF := hF.below hbx; (try replace h1 := Rows.below h1 hbx); (try replace h2 := Rows.below h2 hbx); (try replace h3 := Rows.below h3 hbx); (try replace h4 := Rows.below h4 hbx); (try replace h5 := Rows.below h5 hbx); (try replace h6 := Rows.below h6 hbx); (try replace hG := hG.below hbx); (try replace hE := hE.below hbx); clear hbx; (try clear o); have o := hF.own; simp only [World.size_alloc, World.size_drew, World.size_setCell, List.mem_cons, List.not_mem_nil, or_false, forall_eq_or_imp, forall_eq, At, and_true, Nat.zero_add, Nat.reduceAdd, List.set_cons_zero, List.set_cons_succ] at o)))
    go_ret
    exact ⟨rfl, hF.kp⟩
end Go.Proofs.YtgegmampnpgcaaaDoor
