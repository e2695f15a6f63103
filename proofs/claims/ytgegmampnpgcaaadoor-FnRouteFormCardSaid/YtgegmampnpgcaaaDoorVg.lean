/- The draw of the route comparison laws. -/
import Derived.Test.YtgegmampnpgcaaaDoorVf
import Derived.Deep.RegionHeld3
set_option linter.unusedSimpArgs false
set_option linter.unusedVariables false
namespace Go.Proofs.YtgegmampnpgcaaaDoor
open Go.RowKit

theorem endC {r n2 n3 : Nat} {W w : World} {z0 z1 z2 z3 z4 y0 y1 y2 y3 y4 : Value} (hF : Fr r W w [(n2, [z0, z1, z2, z3, z4]), (n3, [y0, y1, y2, y3, y4])]) (hne : n3 ≠ n2) (u0 u1 u2 u3 u4 x0 x1 x2 x3 x4 : Value) :
    ∃ w', w' = (((((((((w.setCell ⟨n2, 0, none⟩ u0).setCell ⟨n2, 1, none⟩ u1).setCell ⟨n2, 2, none⟩ u2).setCell ⟨n2, 3, none⟩ u3).setCell ⟨n2, 4, none⟩ u4).setCell ⟨n3, 0, none⟩ x0).setCell ⟨n3, 1, none⟩ x1).setCell ⟨n3, 2, none⟩ x2).setCell ⟨n3, 3, none⟩ x3).setCell ⟨n3, 4, none⟩ x4 ∧
      Fr r W w' [(n2, [u0, u1, u2, u3, u4]), (n3, [x0, x1, x2, x3, x4])] ∧ ∀ S v K, n2 ∈ S → n3 ∈ S → Rz w r S v K → Rz w' r S v K := by
  obtain ⟨w1, e1, h1, k1⟩ := put5 hF (by simp; omega) u0 u1 u2 u3 u4
  obtain ⟨w2, e2, h2, k2⟩ := put5 h1.swap (by simp; omega) x0 x1 x2 x3 x4
  subst e1
  exact ⟨w2, e2, h2.swap, fun S v K a b h => k2 S v K b (k1 S v K a h)⟩
set_option maxHeartbeats 4000000 in
theorem drawRouteCmp_any (v : Value) (w : World) (h : Given w v) :
    Calls Tryd.prog 29 #[v] w fun e w' => ∃ (f b lk : Int) (pv mv : Value) (P M : List Int) (g c lk2 : Int) (pv2 mv2 : Value) (P2 M2 : List Int), e = .returned (.tuple #[.agg #[.int .i64 f, .int .i64 b, pv, .int .i64 lk, mv], .agg #[.int .i64 g, .int .i64 c, pv2, .int .i64 lk2, mv2]]) ∧ It w' pv P ∧ It w' mv M ∧ It w' pv2 P2 ∧ It w' mv2 M2 ∧ Below w.heap.size w w' := by
  have hF := ((Fr.start (w.heap.size + 2) w).alloc' [.int .i64 0, .int .i64 0, .slice none 0 0, .int .i64 0, .slice none 0 0] 29 (by omega)).alloc' [.int .i64 0, .int .i64 0, .slice none 0 0, .int .i64 0, .slice none 0 0] 29 (by simp)
  have hG := (h.alloc (.cells #[.int .i64 0, .int .i64 0, .slice none 0 0, .int .i64 0, .slice none 0 0] 29)).alloc (.cells #[.int .i64 0, .int .i64 0, .slice none 0 0, .int .i64 0, .slice none 0 0] 29)
  obtain ⟨n2, hn2⟩ : ∃ n, w.heap.size = n := ⟨_, rfl⟩
  go_enter Tryd.func29, Tryd.ntmps29
  go_wp2_with fail
  refine (open_any v _ hG).mono ?_; rintro e w1 ⟨rfl, hR, hb1⟩
  simp only [World.size_alloc, hn2] at hR hF
  have hr1 := hR.lt
  replace hF := hF.below hb1
  clear hG hb1
  go_wp2_with fail
  refine (l91Route_any _ 0 _ hR (by omega)).mono ?_; rintro e w2 ⟨f, b, lk, pv, mv, P, M, rfl, hP, hM, hP4, hM9, -, -, ⟨k2, hk2, hR2⟩, hK2⟩
  replace hF := hF.call hK2
  have hs2 := hK2.size
  replace hP := hP.rz (r := n2 + 1 + 1) (by omega) [n2 + 1, n2] (by simp; omega)
  replace hM := hM.rz (r := n2 + 1 + 1) (by omega) [n2 + 1, n2] (by simp; omega)
  obtain ⟨o1, c1, rfl, -⟩ := hP.it.1.ex
  obtain ⟨o2, c2, rfl, -⟩ := hM.it.1.ex
  clear hK2 hR
  have hr2 := hR2.lt
  replace hF := hF.alloc [.int .i64 f, .int .i64 b, .slice o1 P.length c1, .int .i64 lk, .slice o2 M.length c2] 29 hr2
  replace hP := hP.alloc (.cells #[.int .i64 f, .int .i64 b, .slice o1 P.length c1, .int .i64 lk, .slice o2 M.length c2] 29)
  replace hM := hM.alloc (.cells #[.int .i64 f, .int .i64 b, .slice o1 P.length c1, .int .i64 lk, .slice o2 M.length c2] 29)
  replace hR2 := hR2.alloc (.cells #[.int .i64 f, .int .i64 b, .slice o1 P.length c1, .int .i64 lk, .slice o2 M.length c2] 29)
  obtain ⟨n5, hn5⟩ : ∃ n, w2.heap.size = n := ⟨_, rfl⟩
  rw [hn5] at hF hP hM hr2
  go_wp2_with fail
  refine (l91Route_any _ _ _ hR2 (by omega)).mono ?_; rintro e w3 ⟨g, c, lk2, pv2, mv2, P2, M2, rfl, hP2, hM2, hP24, hM29, -, -, ⟨k3, hk3, hR3⟩, hK3⟩
  replace hF := hF.call hK3
  replace hP := hP.kp hK3
  replace hM := hM.kp hK3
  have hs3 := hK3.size
  simp only [World.size_alloc, hn5] at hs3 hP2 hM2
  replace hP2 := hP2.rz (r := n2 + 1 + 1) (by omega) [n5, n2 + 1, n2] (by simp; omega)
  replace hM2 := hM2.rz (r := n2 + 1 + 1) (by omega) [n5, n2 + 1, n2] (by simp; omega)
  obtain ⟨o3, c3, rfl, -⟩ := hP2.it.1.ex
  obtain ⟨o4, c4, rfl, -⟩ := hM2.it.1.ex
  clear hK3 hR2
  replace hF := hF.alloc [.int .i64 g, .int .i64 c, .slice o3 P2.length c3, .int .i64 lk2, .slice o4 M2.length c4] 29 hR3.lt
  replace hP := hP.alloc (.cells #[.int .i64 g, .int .i64 c, .slice o3 P2.length c3, .int .i64 lk2, .slice o4 M2.length c4] 29)
  replace hM := hM.alloc (.cells #[.int .i64 g, .int .i64 c, .slice o3 P2.length c3, .int .i64 lk2, .slice o4 M2.length c4] 29)
  replace hP2 := hP2.alloc (.cells #[.int .i64 g, .int .i64 c, .slice o3 P2.length c3, .int .i64 lk2, .slice o4 M2.length c4] 29)
  replace hM2 := hM2.alloc (.cells #[.int .i64 g, .int .i64 c, .slice o3 P2.length c3, .int .i64 lk2, .slice o4 M2.length c4] 29)
  replace hR3 := hR3.alloc (.cells #[.int .i64 g, .int .i64 c, .slice o3 P2.length c3, .int .i64 lk2, .slice o4 M2.length c4] 29)
  obtain ⟨n6, hn6⟩ : ∃ n, w3.heap.size = n := ⟨_, rfl⟩
  rw [hn6] at hF hP hM hP2 hM2
  go_wp2_with fail
  refine (pick_any _ _ _ _ hR3 (by omega) (by omega) (by omega)).mono ?_; rintro e wx ⟨vx, rfl, ux, lx, hR4, hKx⟩
  replace hF := hF.call hKx
  replace hP := hP.kp hKx
  replace hM := hM.kp hKx
  replace hP2 := hP2.kp hKx
  replace hM2 := hM2.kp hKx
  have hsx := hKx.size
  simp only [World.size_alloc, hn6] at hsx
  clear hKx hR3 hR4
  have n25 : n5 ≠ n2 := by omega
  have n26 : n6 ≠ n2 := by omega
  have n35 : n5 ≠ n2 + 1 := by omega
  have n36 : n6 ≠ n2 + 1 := by omega
  have o := hF.own; simp only [World.size_alloc, World.size_drew, World.size_setCell, List.mem_cons, List.not_mem_nil, or_false, forall_eq_or_imp, forall_eq, At, and_true, Nat.zero_add, Nat.reduceAdd, List.set_cons_zero, List.set_cons_succ] at o
  by_cases z0 : vx = 0
  · subst z0
    clear hP2 hM2
    go_wp2_with fail
    refine (l4Copy_any f b lk _ _ P M _ hP.it hM.it (by omega) (by omega)).mono ?_; rintro e wy ⟨pv9, mv9, rfl, l1, l2, hb9⟩
    replace hF := hF.below hb9
    replace hP := hP.below hb9
    replace hM := hM.below hb9
    have q1 := l1.rz (r := n2 + 1 + 1) (by omega) [n6, n5, n2 + 1, n2] (by simp; omega)
    have q2 := l2.rz (r := n2 + 1 + 1) (by omega) [n6, n5, n2 + 1, n2] (by simp; omega)
    obtain ⟨o7, c7, rfl, -⟩ := q1.it.1.ex
    obtain ⟨o8, c8, rfl, -⟩ := q2.it.1.ex
    clear l1 l2 hb9 o
    have o := hF.own; simp only [World.size_alloc, World.size_drew, World.size_setCell, List.mem_cons, List.not_mem_nil, or_false, forall_eq_or_imp, forall_eq, At, and_true, Nat.zero_add, Nat.reduceAdd, List.set_cons_zero, List.set_cons_succ] at o
    go_wp2_with fail
    obtain ⟨wq, hwq, e1, e2⟩ := put5 hF (by simp; omega) (.int .i64 f) (.int .i64 b) (.slice o7 P.length c7) (.int .i64 lk) (.slice o8 M.length c8)
    rw [← hwq]
    clear hwq o hF
    have hF := e1
    replace hP := e2 _ _ _ (by simp) hP
    replace hM := e2 _ _ _ (by simp) hM
    replace q1 := e2 _ _ _ (by simp) q1
    replace q2 := e2 _ _ _ (by simp) q2
    clear e1 e2
    have o := hF.own; simp only [World.size_alloc, World.size_drew, World.size_setCell, List.mem_cons, List.not_mem_nil, or_false, forall_eq_or_imp, forall_eq, At, and_true, Nat.zero_add, Nat.reduceAdd, List.set_cons_zero, List.set_cons_succ] at o
    go_region_held3 (fun w' => (w'.cell? ⟨n5, 0, none⟩ = some (.int .i64 f) ∧ w'.cell? ⟨n5, 1, none⟩ = some (.int .i64 b) ∧ w'.cell? ⟨n5, 2, none⟩ = some (.slice o1 P.length c1) ∧ w'.cell? ⟨n5, 3, none⟩ = some (.int .i64 lk) ∧ w'.cell? ⟨n5, 4, none⟩ = some (.slice o2 M.length c2)) ∧ (w'.cell? ⟨n6, 0, none⟩ = some (.int .i64 f) ∧ w'.cell? ⟨n6, 1, none⟩ = some (.int .i64 b) ∧ w'.cell? ⟨n6, 2, none⟩ = some (.slice o7 P.length c7) ∧ w'.cell? ⟨n6, 3, none⟩ = some (.int .i64 lk) ∧ w'.cell? ⟨n6, 4, none⟩ = some (.slice o8 M.length c8))) (simp [o, World.cell?_setCell_far, World.cell?_drew, n25, n26, n35, n36, n25.symm, n26.symm, n35.symm, n36.symm]) (fail)
    all_goals (try go_wp2)
    obtain ⟨wz, hwz, e1, e2⟩ := endC (hF.sub (L' := [(n2, [.int .i64 0, .int .i64 0, .slice none 0 0, .int .i64 0, .slice none 0 0]), (n2 + 1, [.int .i64 0, .int .i64 0, .slice none 0 0, .int .i64 0, .slice none 0 0])]) (by intro p hp; simp only [List.mem_cons, List.not_mem_nil, or_false] at hp ⊢; rcases hp with rfl | rfl <;> simp)) (by omega) (.int .i64 f) (.int .i64 b) (.slice o1 P.length c1) (.int .i64 lk) (.slice o2 M.length c2) (.int .i64 f) (.int .i64 b) (.slice o7 P.length c7) (.int .i64 lk) (.slice o8 M.length c8)
    rw [← hwz]
    clear hwz o hF
    have hF := e1.drew
    have o := hF.own; simp only [World.size_alloc, World.size_drew, World.size_setCell, List.mem_cons, List.not_mem_nil, or_false, forall_eq_or_imp, forall_eq, At, and_true, Nat.zero_add, Nat.reduceAdd, List.set_cons_zero, List.set_cons_succ] at o
    refine bodyPost_ret (v := .tuple #[.agg #[.int .i64 f, .int .i64 b, .slice o1 P.length c1, .int .i64 lk, .slice o2 M.length c2], .agg #[.int .i64 f, .int .i64 b, (.slice o7 P.length c7), .int .i64 lk, (.slice o8 M.length c8)]]) ?_ rfl ?_
    · simp [results, Tryd.results29, go_sem, o]
    · exact ⟨f, b, lk, _, _, P, M, f, b, lk, _, _, _, _, rfl, (e2 _ _ _ (by simp) (by simp) hP).drew.it, (e2 _ _ _ (by simp) (by simp) hM).drew.it, (e2 _ _ _ (by simp) (by simp) q1).drew.it, (e2 _ _ _ (by simp) (by simp) q2).drew.it, hF.kp.below (by omega) (Nat.le_refl _)⟩
  · have d0 : (vx == 0) = false := by simp [z0]
    by_cases z1 : vx = 1
    · subst z1
      go_wp2_with fail
      replace hF := hF.set 3 (.int .i64 lk) (by simp) (by simp; omega)
      replace hP := hP.set (p := ⟨n6, 3, none⟩) (by simp) (.int .i64 lk)
      replace hM := hM.set (p := ⟨n6, 3, none⟩) (by simp) (.int .i64 lk)
      replace hP2 := hP2.set (p := ⟨n6, 3, none⟩) (by simp) (.int .i64 lk)
      replace hM2 := hM2.set (p := ⟨n6, 3, none⟩) (by simp) (.int .i64 lk)
      clear o
      have o := hF.own; simp only [World.size_alloc, World.size_drew, World.size_setCell, List.mem_cons, List.not_mem_nil, or_false, forall_eq_or_imp, forall_eq, At, and_true, Nat.zero_add, Nat.reduceAdd, List.set_cons_zero, List.set_cons_succ] at o
      go_region_held3 (fun w' => (w'.cell? ⟨n5, 0, none⟩ = some (.int .i64 f) ∧ w'.cell? ⟨n5, 1, none⟩ = some (.int .i64 b) ∧ w'.cell? ⟨n5, 2, none⟩ = some (.slice o1 P.length c1) ∧ w'.cell? ⟨n5, 3, none⟩ = some (.int .i64 lk) ∧ w'.cell? ⟨n5, 4, none⟩ = some (.slice o2 M.length c2)) ∧ (w'.cell? ⟨n6, 0, none⟩ = some (.int .i64 g) ∧ w'.cell? ⟨n6, 1, none⟩ = some (.int .i64 c) ∧ w'.cell? ⟨n6, 2, none⟩ = some (.slice o3 P2.length c3) ∧ w'.cell? ⟨n6, 3, none⟩ = some (.int .i64 lk) ∧ w'.cell? ⟨n6, 4, none⟩ = some (.slice o4 M2.length c4))) (simp [o, World.cell?_setCell_far, World.cell?_drew, n25, n26, n35, n36, n25.symm, n26.symm, n35.symm, n36.symm]) (fail)
      all_goals (try go_wp2)
      obtain ⟨wz, hwz, e1, e2⟩ := endC (hF.sub (L' := [(n2, [.int .i64 0, .int .i64 0, .slice none 0 0, .int .i64 0, .slice none 0 0]), (n2 + 1, [.int .i64 0, .int .i64 0, .slice none 0 0, .int .i64 0, .slice none 0 0])]) (by intro p hp; simp only [List.mem_cons, List.not_mem_nil, or_false] at hp ⊢; rcases hp with rfl | rfl <;> simp)) (by omega) (.int .i64 f) (.int .i64 b) (.slice o1 P.length c1) (.int .i64 lk) (.slice o2 M.length c2) (.int .i64 g) (.int .i64 c) (.slice o3 P2.length c3) (.int .i64 lk) (.slice o4 M2.length c4)
      rw [← hwz]
      clear hwz o hF
      have hF := e1.drew
      have o := hF.own; simp only [World.size_alloc, World.size_drew, World.size_setCell, List.mem_cons, List.not_mem_nil, or_false, forall_eq_or_imp, forall_eq, At, and_true, Nat.zero_add, Nat.reduceAdd, List.set_cons_zero, List.set_cons_succ] at o
      refine bodyPost_ret (v := .tuple #[.agg #[.int .i64 f, .int .i64 b, .slice o1 P.length c1, .int .i64 lk, .slice o2 M.length c2], .agg #[.int .i64 g, .int .i64 c, (.slice o3 P2.length c3), .int .i64 lk, (.slice o4 M2.length c4)]]) ?_ rfl ?_
      · simp [results, Tryd.results29, go_sem, o]
      · exact ⟨f, b, lk, _, _, P, M, g, c, lk, _, _, _, _, rfl, (e2 _ _ _ (by simp) (by simp) hP).drew.it, (e2 _ _ _ (by simp) (by simp) hM).drew.it, (e2 _ _ _ (by simp) (by simp) hP2).drew.it, (e2 _ _ _ (by simp) (by simp) hM2).drew.it, hF.kp.below (by omega) (Nat.le_refl _)⟩
    · have d1 : (vx == 1) = false := by simp [z1]
      by_cases z2 : vx = 2
      · subst z2
        clear hP2
        have hF3 := hF.set 3 (.int .i64 lk) (by simp) (by simp; omega)
        have hP3 := hP.set (p := ⟨n6, 3, none⟩) (by simp) (.int .i64 lk)
        have hM3 := hM.set (p := ⟨n6, 3, none⟩) (by simp) (.int .i64 lk)
        have hM23 := hM2.set (p := ⟨n6, 3, none⟩) (by simp) (.int .i64 lk)
        go_wp2_with (at_builtin; refine wpList_copy rfl _ _ 27 rfl 3 (.int .i64 0) 8 Tryd.underlying27 infoInt rfl (by decide) (by show Value.slice (some ⟨_, 0, none⟩) 0 0 = Value.slice (some ⟨_, 0, none⟩) 0 0; simp only [World.size_setCell]) (.slice o1 P.length c1) P rfl hP3.it (by omega) ?_; intro g9 k9 wy hO9 hb9; simp only [World.size_setCell] at hO9; replace hF := hF3.below hb9; replace hP := hP3.below hb9; replace hM := hM3.below hb9; replace hM2 := hM23.below hb9; clear hF3 hP3 hM3 hM23 hb9 o; have o := hF.own; simp only [World.size_alloc, World.size_drew, World.size_setCell, List.mem_cons, List.not_mem_nil, or_false, forall_eq_or_imp, forall_eq, At, and_true, Nat.zero_add, Nat.reduceAdd, List.set_cons_zero, List.set_cons_succ] at o)
        have q1 := ((hO9.lies (lo := n6) (by omega)).rz (r := n2 + 1 + 1) (by omega) [n6, n5, n2 + 1, n2] (by simp; omega)).set (p := ⟨n6, 2, none⟩) (by simp) (.slice (some ⟨g9, 0, none⟩) P.length k9)
        replace hF := hF.set 2 (.slice (some ⟨g9, 0, none⟩) P.length k9) (by simp) (by simp; omega)
        replace hP := hP.set (p := ⟨n6, 2, none⟩) (by simp) (.slice (some ⟨g9, 0, none⟩) P.length k9)
        replace hM := hM.set (p := ⟨n6, 2, none⟩) (by simp) (.slice (some ⟨g9, 0, none⟩) P.length k9)
        replace hM2 := hM2.set (p := ⟨n6, 2, none⟩) (by simp) (.slice (some ⟨g9, 0, none⟩) P.length k9)
        clear o hO9
        have o := hF.own; simp only [World.size_alloc, World.size_drew, World.size_setCell, List.mem_cons, List.not_mem_nil, or_false, forall_eq_or_imp, forall_eq, At, and_true, Nat.zero_add, Nat.reduceAdd, List.set_cons_zero, List.set_cons_succ] at o
        go_region_held3 (fun w' => (w'.cell? ⟨n5, 0, none⟩ = some (.int .i64 f) ∧ w'.cell? ⟨n5, 1, none⟩ = some (.int .i64 b) ∧ w'.cell? ⟨n5, 2, none⟩ = some (.slice o1 P.length c1) ∧ w'.cell? ⟨n5, 3, none⟩ = some (.int .i64 lk) ∧ w'.cell? ⟨n5, 4, none⟩ = some (.slice o2 M.length c2)) ∧ (w'.cell? ⟨n6, 0, none⟩ = some (.int .i64 g) ∧ w'.cell? ⟨n6, 1, none⟩ = some (.int .i64 c) ∧ w'.cell? ⟨n6, 2, none⟩ = some (.slice (some ⟨g9, 0, none⟩) P.length k9) ∧ w'.cell? ⟨n6, 3, none⟩ = some (.int .i64 lk) ∧ w'.cell? ⟨n6, 4, none⟩ = some (.slice o4 M2.length c4))) (simp [o, World.cell?_setCell_far, World.cell?_drew, n25, n26, n35, n36, n25.symm, n26.symm, n35.symm, n36.symm]) (fail)
        all_goals (try go_wp2)
        obtain ⟨wz, hwz, e1, e2⟩ := endC (hF.sub (L' := [(n2, [.int .i64 0, .int .i64 0, .slice none 0 0, .int .i64 0, .slice none 0 0]), (n2 + 1, [.int .i64 0, .int .i64 0, .slice none 0 0, .int .i64 0, .slice none 0 0])]) (by intro p hp; simp only [List.mem_cons, List.not_mem_nil, or_false] at hp ⊢; rcases hp with rfl | rfl <;> simp)) (by omega) (.int .i64 f) (.int .i64 b) (.slice o1 P.length c1) (.int .i64 lk) (.slice o2 M.length c2) (.int .i64 g) (.int .i64 c) (.slice (some ⟨g9, 0, none⟩) P.length k9) (.int .i64 lk) (.slice o4 M2.length c4)
        rw [← hwz]
        clear hwz o hF
        have hF := e1.drew
        have o := hF.own; simp only [World.size_alloc, World.size_drew, World.size_setCell, List.mem_cons, List.not_mem_nil, or_false, forall_eq_or_imp, forall_eq, At, and_true, Nat.zero_add, Nat.reduceAdd, List.set_cons_zero, List.set_cons_succ] at o
        refine bodyPost_ret (v := .tuple #[.agg #[.int .i64 f, .int .i64 b, .slice o1 P.length c1, .int .i64 lk, .slice o2 M.length c2], .agg #[.int .i64 g, .int .i64 c, (.slice (some ⟨g9, 0, none⟩) P.length k9), .int .i64 lk, (.slice o4 M2.length c4)]]) ?_ rfl ?_
        · simp [results, Tryd.results29, go_sem, o]
        · exact ⟨f, b, lk, _, _, P, M, g, c, lk, _, _, _, _, rfl, (e2 _ _ _ (by simp) (by simp) hP).drew.it, (e2 _ _ _ (by simp) (by simp) hM).drew.it, (e2 _ _ _ (by simp) (by simp) q1).drew.it, (e2 _ _ _ (by simp) (by simp) hM2).drew.it, hF.kp.below (by omega) (Nat.le_refl _)⟩
      · have d2 : (vx == 2) = false := by simp [z2]
        go_wp2_with fail
        go_region_held3 (fun w' => (w'.cell? ⟨n5, 0, none⟩ = some (.int .i64 f) ∧ w'.cell? ⟨n5, 1, none⟩ = some (.int .i64 b) ∧ w'.cell? ⟨n5, 2, none⟩ = some (.slice o1 P.length c1) ∧ w'.cell? ⟨n5, 3, none⟩ = some (.int .i64 lk) ∧ w'.cell? ⟨n5, 4, none⟩ = some (.slice o2 M.length c2)) ∧ (w'.cell? ⟨n6, 0, none⟩ = some (.int .i64 g) ∧ w'.cell? ⟨n6, 1, none⟩ = some (.int .i64 c) ∧ w'.cell? ⟨n6, 2, none⟩ = some (.slice o3 P2.length c3) ∧ w'.cell? ⟨n6, 3, none⟩ = some (.int .i64 lk2) ∧ w'.cell? ⟨n6, 4, none⟩ = some (.slice o4 M2.length c4))) (simp [o, World.cell?_setCell_far, World.cell?_drew, n25, n26, n35, n36, n25.symm, n26.symm, n35.symm, n36.symm]) (fail)
        all_goals (try go_wp2)
        obtain ⟨wz, hwz, e1, e2⟩ := endC (hF.sub (L' := [(n2, [.int .i64 0, .int .i64 0, .slice none 0 0, .int .i64 0, .slice none 0 0]), (n2 + 1, [.int .i64 0, .int .i64 0, .slice none 0 0, .int .i64 0, .slice none 0 0])]) (by intro p hp; simp only [List.mem_cons, List.not_mem_nil, or_false] at hp ⊢; rcases hp with rfl | rfl <;> simp)) (by omega) (.int .i64 f) (.int .i64 b) (.slice o1 P.length c1) (.int .i64 lk) (.slice o2 M.length c2) (.int .i64 g) (.int .i64 c) (.slice o3 P2.length c3) (.int .i64 lk2) (.slice o4 M2.length c4)
        rw [← hwz]
        clear hwz o hF
        have hF := e1.drew
        have o := hF.own; simp only [World.size_alloc, World.size_drew, World.size_setCell, List.mem_cons, List.not_mem_nil, or_false, forall_eq_or_imp, forall_eq, At, and_true, Nat.zero_add, Nat.reduceAdd, List.set_cons_zero, List.set_cons_succ] at o
        refine bodyPost_ret (v := .tuple #[.agg #[.int .i64 f, .int .i64 b, .slice o1 P.length c1, .int .i64 lk, .slice o2 M.length c2], .agg #[.int .i64 g, .int .i64 c, (.slice o3 P2.length c3), .int .i64 lk2, (.slice o4 M2.length c4)]]) ?_ rfl ?_
        · simp [results, Tryd.results29, go_sem, o]
        · exact ⟨f, b, lk, _, _, P, M, g, c, lk2, _, _, _, _, rfl, (e2 _ _ _ (by simp) (by simp) hP).drew.it, (e2 _ _ _ (by simp) (by simp) hM).drew.it, (e2 _ _ _ (by simp) (by simp) hP2).drew.it, (e2 _ _ _ (by simp) (by simp) hM2).drew.it, hF.kp.below (by omega) (Nat.le_refl _)⟩
end Go.Proofs.YtgegmampnpgcaaaDoor
