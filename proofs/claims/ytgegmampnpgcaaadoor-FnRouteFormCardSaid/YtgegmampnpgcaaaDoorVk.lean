/- FnRouteForm: the draw and the walk. -/
import Derived.Test.YtgegmampnpgcaaaDoorVg
set_option linter.unusedSimpArgs false
set_option linter.unusedVariables false
namespace Go.Proofs.YtgegmampnpgcaaaDoor
open Go.RowKit

set_option maxHeartbeats 4000000 in
theorem drawRouteOk_any (v : Value) (w : World) (h : Given w v) :
    Calls Tryd.prog 33 #[v] w fun e w' => ∃ (f b lk : Int) (pv mv : Value) (P M : List Int), e = .returned (.agg #[.int .i64 f, .int .i64 b, pv, .int .i64 lk, mv]) ∧ It w' pv P ∧ It w' mv M ∧ P.length ≤ 4 ∧ M.length ≤ 10 ∧ Below w.heap.size w w' := by
  have hF := (Fr.start (w.heap.size + 1) w).alloc' [.int .i64 0, .int .i64 0, .slice none 0 0, .int .i64 0, .slice none 0 0] 29 (by omega)
  have hG := h.alloc (.cells #[.int .i64 0, .int .i64 0, .slice none 0 0, .int .i64 0, .slice none 0 0] 29)
  obtain ⟨n2, hn2⟩ : ∃ n, w.heap.size = n := ⟨_, rfl⟩
  go_enter Tryd.func33, Tryd.ntmps33
  go_wp2_with fail
  refine (open_any v _ hG).mono ?_; rintro e w1 ⟨rfl, hR, hb1⟩
  simp only [World.size_alloc, hn2] at hR hF
  have hr1 := hR.lt
  replace hF := hF.below hb1
  clear hG hb1
  go_wp2_with fail
  refine (l91Route_any _ 0 _ hR (by omega)).mono ?_; rintro e w2 ⟨f, b, lk, pv, mv, P, M, rfl, hP, hM, hP4, hM9, -, -, ⟨k2, hk2, hR2⟩, hK2⟩
  replace hF := hF.call hK2
  have hs2 := hK2.size
  replace hP := hP.rz (r := n2 + 1) (by omega) [n2] (by simp; omega)
  replace hM := hM.rz (r := n2 + 1) (by omega) [n2] (by simp; omega)
  obtain ⟨o1, c1, rfl, -⟩ := hP.it.1.ex
  obtain ⟨o2, c2, rfl, -⟩ := hM.it.1.ex
  clear hK2 hR
  have hr2 := hR2.lt
  replace hF := hF.alloc [.int .i64 f, .int .i64 b, .slice o1 P.length c1, .int .i64 lk, .slice o2 M.length c2] 29 hr2
  replace hP := hP.alloc (.cells #[.int .i64 f, .int .i64 b, .slice o1 P.length c1, .int .i64 lk, .slice o2 M.length c2] 29)
  replace hM := hM.alloc (.cells #[.int .i64 f, .int .i64 b, .slice o1 P.length c1, .int .i64 lk, .slice o2 M.length c2] 29)
  replace hR2 := hR2.alloc (.cells #[.int .i64 f, .int .i64 b, .slice o1 P.length c1, .int .i64 lk, .slice o2 M.length c2] 29)
  obtain ⟨n5, hn5⟩ : ∃ n, w2.heap.size = n := ⟨_, rfl⟩
  rw [hn5] at hF hP hM hr2
  go_wp2_with fail
  refine (pick_any _ _ _ _ hR2 (by omega) (by omega) (by omega)).mono ?_; rintro e wx ⟨vx, rfl, ux, lx, hRx, hKx⟩
  replace hF := hF.call hKx
  replace hP := hP.kp hKx
  replace hM := hM.kp hKx
  clear hKx hR2
  by_cases hz : vx = 0
  · subst hz
    go_wp2_with fail
    refine (pick_any _ _ _ _ hRx (by omega) (by omega) (by omega)).mono ?_; rintro e wy ⟨vy, rfl, uy, ly, hRy, hKy⟩
    replace hF := hF.call hKy
    replace hP := hP.kp hKy
    replace hM := hM.kp hKy
    clear hKy hRx hRy
    have o := hF.own; simp only [World.size_alloc, World.size_drew, World.size_setCell, List.mem_cons, List.not_mem_nil, or_false, forall_eq_or_imp, forall_eq, At, and_true, Nat.zero_add, Nat.reduceAdd, List.set_cons_zero, List.set_cons_succ] at o
    go_wp2_with fail
    replace hF := hF.set 3 (.int .i64 (vy - 2)) (by simp) (by simp; omega)
    replace hP := hP.set (p := ⟨n5, 3, none⟩) (by simp) (.int .i64 (vy - 2))
    replace hM := hM.set (p := ⟨n5, 3, none⟩) (by simp) (.int .i64 (vy - 2))
    obtain ⟨wz, hwz, e1, e2⟩ := put5 hF.swap (by simp; omega) (.int .i64 f) (.int .i64 b) (.slice o1 P.length c1) (.int .i64 (vy - 2)) (.slice o2 M.length c2)
    rw [← hwz]
    clear hwz o hF
    have hF := e1
    have o := hF.own; simp only [World.size_alloc, World.size_drew, World.size_setCell, List.mem_cons, List.not_mem_nil, or_false, forall_eq_or_imp, forall_eq, At, and_true, Nat.zero_add, Nat.reduceAdd, List.set_cons_zero, List.set_cons_succ] at o
    refine bodyPost_ret (v := .agg #[.int .i64 f, .int .i64 b, .slice o1 P.length c1, .int .i64 (vy - 2), .slice o2 M.length c2]) ?_ rfl ?_
    · simp [results, Tryd.results33, go_sem, o]
    · exact ⟨f, b, (vy - 2), _, _, P, M, rfl, (e2 _ _ _ (by simp) hP).it, (e2 _ _ _ (by simp) hM).it, hP4, hM9, e1.kp.below (by omega) (Nat.le_refl _)⟩
  · have dz : (vx == 0) = false := by simp [hz]
    clear hz hRx
    have o := hF.own; simp only [World.size_alloc, World.size_drew, World.size_setCell, List.mem_cons, List.not_mem_nil, or_false, forall_eq_or_imp, forall_eq, At, and_true, Nat.zero_add, Nat.reduceAdd, List.set_cons_zero, List.set_cons_succ] at o
    go_wp2_with fail
    obtain ⟨wz, hwz, e1, e2⟩ := put5 hF.swap (by simp; omega) (.int .i64 f) (.int .i64 b) (.slice o1 P.length c1) (.int .i64 lk) (.slice o2 M.length c2)
    rw [← hwz]
    clear hwz o hF
    have hF := e1
    have o := hF.own; simp only [World.size_alloc, World.size_drew, World.size_setCell, List.mem_cons, List.not_mem_nil, or_false, forall_eq_or_imp, forall_eq, At, and_true, Nat.zero_add, Nat.reduceAdd, List.set_cons_zero, List.set_cons_succ] at o
    refine bodyPost_ret (v := .agg #[.int .i64 f, .int .i64 b, .slice o1 P.length c1, .int .i64 lk, .slice o2 M.length c2]) ?_ rfl ?_
    · simp [results, Tryd.results33, go_sem, o]
    · exact ⟨f, b, lk, _, _, P, M, rfl, (e2 _ _ _ (by simp) hP).it, (e2 _ _ _ (by simp) hM).it, hP4, hM9, e1.kp.below (by omega) (Nat.le_refl _)⟩
theorem mok_99 (M : List Int) : ¬ MOk (M ++ [9, 9]) := fun h => by
  have h1 := h (M.length + 1) (by simp)
  have h2 := h1.2 (by omega)
  rw [show M.length + 1 - 1 = M.length by omega] at h2
  simp [List.getD] at h2
theorem lit99 (w : World) : Ints (w.alloc (.cells #[.int .i64 9, .int .i64 9] 3)) (.slice (some ⟨w.heap.size, 0, none⟩) 2 2) [9, 9] := (Own.lit 3 w w.heap.size 1 encI [9, 9] (fun _ => rfl) (Nat.le_refl _) (by simp)).rows (fun _ => rfl)
set_option maxHeartbeats 4000000 in
theorem FnRouteForm_walk (a0 : Option Addr) (n0 c0 : Nat) (a : Addr) (w : World) (h0 : Given w (.slice a0 n0 c0)) (hE : EPath w a) :
    Calls Tryd.prog 8 #[.slice a0 n0 c0] w fun e w' => e = .returned (.bool true) ∧ Below w.heap.size w w' := by
  by_cases hn0 : 1048576 < n0
  · have e0 : decide (1048576 < (n0 : Int)) = true := by simp; omega
    go_enter Tryd.func8, Tryd.ntmps8
    go_wp2
    go_ret
    exact ⟨rfl, Below.refl _ _⟩
  have e0 : decide (1048576 < (n0 : Int)) = false := by simp; omega
  have hF := Fb.start w
  go_enter Tryd.func8, Tryd.ntmps8
  go_wp2_with fail
  refine (drawRouteOk_any _ _ h0).mono ?_; rintro e w1 ⟨f, b, lk, pv, mv, P, M, rfl, h1, h2, hP4, hM9, hb1⟩
  obtain ⟨o1, k1, rfl, -⟩ := h1.1.ex
  obtain ⟨o2, k2, rfl, -⟩ := h2.1.ex
  have hb2 := (Below.refl w1.heap.size w1).alloc (Nat.le_refl _) (.cells #[.int .i64 f, .int .i64 b, .slice o1 P.length k1, .int .i64 lk, .slice o2 M.length k2] 29)
  replace hF := (hF.below hb1).alloc [.int .i64 f, .int .i64 b, .slice o1 P.length k1, .int .i64 lk, .slice o2 M.length k2] 29
  replace hE := (hE.below hb1).below hb2
  replace h1 := It.below h1 hb2
  replace h2 := It.below h2 hb2
  clear hb1 hb2 h0
  obtain ⟨n3, hn3⟩ : ∃ n, w1.heap.size = n := ⟨_, rfl⟩
  rw [hn3] at hF
  have o := hF.own; simp only [World.size_alloc, World.size_drew, World.size_setCell, List.mem_cons, List.not_mem_nil, or_false, forall_eq_or_imp, forall_eq, At, and_true, Nat.zero_add, Nat.reduceAdd, List.set_cons_zero, List.set_cons_succ] at o
  have tok1 : True := trivial
  by_cases p1 : RtOk f b P lk M
  · have d1 : decide (RtOk f b P lk M) = true := by simp [p1]
    have dA : decide (RtOk f b [] lk M) = false := decide_eq_false fun g => absurd g.2.1 (by simp)
    have dB : decide (RtOk f b P 10 M) = false := decide_eq_false fun g => absurd g.2.2.2.1.2 (by omega)
    have dC : decide (RtOk f b P lk (M ++ [9, 9])) = false := decide_eq_false fun g => mok_99 M g.2.2.2.2
    clear p1
    go_upto_region 7 with (first | (go_at_call 34; go_must (refine (iRouteOk_any f b lk _ _ P M a _ h1.1 h2.1 hE).mono ?_); rintro e wx ⟨rfl, hbx⟩; replace hF := hF.below hbx; replace h1 := It.below h1 hbx; replace h2 := It.below h2 hbx; replace hE := hE.below hbx; clear hbx o; have o := hF.own; simp only [World.size_alloc, World.size_drew, World.size_setCell, List.mem_cons, List.not_mem_nil, or_false, forall_eq_or_imp, forall_eq, At, and_true, Nat.zero_add, Nat.reduceAdd, List.set_cons_zero, List.set_cons_succ] at o) | (go_at_call 14; go_must (refine (sRouteOk_any f b lk _ _ P M _ h1.1 h2.1).mono ?_); rintro e wx ⟨rfl, hbx⟩; replace hF := hF.below hbx; replace h1 := It.below h1 hbx; replace h2 := It.below h2 hbx; replace hE := hE.below hbx; clear hbx o; have o := hF.own; simp only [World.size_alloc, World.size_drew, World.size_setCell, List.mem_cons, List.not_mem_nil, or_false, forall_eq_or_imp, forall_eq, At, and_true, Nat.zero_add, Nat.reduceAdd, List.set_cons_zero, List.set_cons_succ] at o))
    have HF := Lib.hid hF
    have H1 := Lib.hid h1
    have H2 := Lib.hid h2
    have HE := Lib.hid hE
    have HO := Lib.hid o
    go_upto_region 12 with (fail)
    have hQ := (((Fb.start wx).alloc [.int .i64 f, .int .i64 b, .slice none 0 0, .int .i64 lk, .slice o2 M.length k2] 29).alloc [.int .i64 f, .int .i64 b, .slice o1 P.length k1, .int .i64 10, .slice o2 M.length k2] 29).alloc [.int .i64 f, .int .i64 b, .slice o1 P.length k1, .int .i64 lk, .slice o2 M.length k2] 29
    simp only [World.size_alloc] at hQ
    obtain ⟨n5, hn5⟩ : ∃ n, wx.heap.size = n := ⟨_, rfl⟩
    rw [hn5] at hQ ⊢
    obtain ⟨wb, hwb⟩ : ∃ wb, ((wx.alloc (.cells #[.int .i64 f, .int .i64 b, .slice none 0 0, .int .i64 lk, .slice o2 M.length k2] 29)).alloc (.cells #[.int .i64 f, .int .i64 b, .slice o1 P.length k1, .int .i64 10, .slice o2 M.length k2] 29)).alloc (.cells #[.int .i64 f, .int .i64 b, .slice o1 P.length k1, .int .i64 lk, .slice o2 M.length k2] 29) = wb := ⟨_, rfl⟩
    have hsw : wb.heap.size = n5 + 1 + 1 + 1 := by rw [← hwb]; simp [hn5]
    have hQ2 : Fb wx wb [(n5 + 1 + 1, [.int .i64 f, .int .i64 b, .slice o1 P.length k1, .int .i64 lk, .slice o2 M.length k2]), (n5 + 1, [.int .i64 f, .int .i64 b, .slice o1 P.length k1, .int .i64 10, .slice o2 M.length k2]), (n5, [.int .i64 f, .int .i64 b, .slice none 0 0, .int .i64 lk, .slice o2 M.length k2])] := by rw [← hwb]; exact hQ
    rw [hwb]
    clear hQ o hF h1 h2 hE
    have hQ := hQ2
    have c4 := (hQ.other (.cells #[] 3)).old HO.out.1.2.2.2.2.2.2.2.2.1
    have m2 := H2.out.below hQ.kp
    have HS := Lib.hid hsw
    have HN := Lib.hid hn5
    clear hQ2 hwb hsw hn5
    have tok2 : True := trivial
    have tok3 : True := trivial
    have tok4 : True := trivial
    have hl2 : (M ++ [9, 9]).length ≤ 1000 := by simp; omega
    go_wp2_with (first
      | (at_builtin; clear tok2; refine wpList_copy rfl _ _ 27 rfl 3 (.int .i64 0) 8 Tryd.underlying27 infoInt rfl (by decide) rfl (.slice o2 M.length k2) M rfl m2 (by omega) ?_; intro g9 k9 wy hO9 hb9; replace hQ := hQ.below hb9; have hsy := hb9.size; clear hb9 c4 m2)
      | (at_builtin; refine wpList_apps rfl _ _ 27 rfl 3 (.int .i64 0) 1 8 Tryd.underlying27 infoInt rfl (by decide) (by decide) wb.heap.size encI (fun _ => rfl) (fun _ u hu => by simp [encI] at hu; subst hu; rfl) _ M rfl (hO9.alloc _) wy.heap.size 0 2 2 [9, 9] rfl (lit99 wy) (by omega) (by simp only [World.size_alloc]; omega) ?_; intro v8 wz hO8 hg8 hb8 hf8 hz8; obtain ⟨g8, c8, n8, rfl, hn8, hl8⟩ : ∃ g c n, v8 = .slice (some ⟨g, 0, none⟩) n c ∧ n ≤ c ∧ Hid ((M ++ [9, 9]).length = n) := hO8.two.resolve_left (fun q => by simp at q); replace hQ := (hQ.other _).belowB hb8 (by have := HS.out; have := HN.out; omega) (by have := HS.out; simp; omega); clear hg8 hb8 hf8 hz8; have o := hQ.own; simp only [World.size_alloc, World.size_drew, World.size_setCell, List.mem_cons, List.not_mem_nil, or_false, forall_eq_or_imp, forall_eq, At, and_true, Nat.zero_add, Nat.reduceAdd, List.set_cons_zero, List.set_cons_succ] at o))
    have h3 := (hO8.set (a := ⟨n5 + 1 + 1, 4, none⟩) (by have := HS.out; dsimp only; omega) (.slice (some ⟨g8, 0, none⟩) n8 c8)).ints
    replace hQ := hQ.set 4 (.slice (some ⟨g8, 0, none⟩) n8 c8) (by simp) (by simp <;> omega)
    clear o hO8 hO9
    obtain ⟨wq, hwq⟩ : ∃ wq, wz.setCell ⟨n5 + 1 + 1, 4, none⟩ (.slice (some ⟨g8, 0, none⟩) n8 c8) = wq := ⟨_, rfl⟩
    rw [hwq] at hQ h3 ⊢
    clear hwq
    have o := hQ.own; simp only [World.size_alloc, World.size_drew, World.size_setCell, List.mem_cons, List.not_mem_nil, or_false, forall_eq_or_imp, forall_eq, At, and_true, Nat.zero_add, Nat.reduceAdd, List.set_cons_zero, List.set_cons_succ] at o
    have hr0 := iRouteOk_any f b lk _ _ [] M a _ (Rows.nil wq none 0 (by omega) 1 encI) (Rows.below H2.out.1 hQ.kp) (HE.out.below hQ.kp)
    refine hr0.mono ?_; rintro e wx ⟨rfl, hbx⟩; replace hQ := hQ.below hbx; replace h3 := Rows.below h3 hbx; clear hr0 hbx o; have o := hQ.own; simp only [World.size_alloc, World.size_drew, World.size_setCell, List.mem_cons, List.not_mem_nil, or_false, forall_eq_or_imp, forall_eq, At, and_true, Nat.zero_add, Nat.reduceAdd, List.set_cons_zero, List.set_cons_succ] at o
    go_wp2_with (first | (go_at_call 34; clear tok3; go_must (refine (iRouteOk_any f b 10 _ _ P M a _ (Rows.below H1.out.1 hQ.kp) (Rows.below H2.out.1 hQ.kp) (HE.out.below hQ.kp)).mono ?_); rintro e wx ⟨rfl, hbx⟩; replace hQ := hQ.below hbx; replace h3 := Rows.below h3 hbx; clear hbx o; have o := hQ.own; simp only [World.size_alloc, World.size_drew, World.size_setCell, List.mem_cons, List.not_mem_nil, or_false, forall_eq_or_imp, forall_eq, At, and_true, Nat.zero_add, Nat.reduceAdd, List.set_cons_zero, List.set_cons_succ] at o) | (go_at_call 34; clear tok4; go_must (refine (iRouteOk_any f b lk _ _ P (M ++ [9, 9]) a _ (Rows.below H1.out.1 hQ.kp) h3 (HE.out.below hQ.kp)).mono ?_); rintro e wx ⟨rfl, hbx⟩; replace hQ := hQ.below hbx; replace h3 := Rows.below h3 hbx; clear hbx o; have o := hQ.own; simp only [World.size_alloc, World.size_drew, World.size_setCell, List.mem_cons, List.not_mem_nil, or_false, forall_eq_or_imp, forall_eq, At, and_true, Nat.zero_add, Nat.reduceAdd, List.set_cons_zero, List.set_cons_succ] at o))
    go_ret
    exact ⟨rfl, (HF.out.below hQ.kp).kp⟩
  · have d1 : decide (RtOk f b P lk M) = false := by simp [p1]
    clear p1
    go_wp2_with (first | (go_at_call 34; go_must (refine (iRouteOk_any f b lk _ _ P M a _ h1.1 h2.1 hE).mono ?_); rintro e wx ⟨rfl, hbx⟩; replace hF := hF.below hbx; replace h1 := It.below h1 hbx; replace h2 := It.below h2 hbx; replace hE := hE.below hbx; clear hbx o; have o := hF.own; simp only [World.size_alloc, World.size_drew, World.size_setCell, List.mem_cons, List.not_mem_nil, or_false, forall_eq_or_imp, forall_eq, At, and_true, Nat.zero_add, Nat.reduceAdd, List.set_cons_zero, List.set_cons_succ] at o) | (go_at_call 14; go_must (refine (sRouteOk_any f b lk _ _ P M _ h1.1 h2.1).mono ?_); rintro e wx ⟨rfl, hbx⟩; replace hF := hF.below hbx; replace h1 := It.below h1 hbx; replace h2 := It.below h2 hbx; replace hE := hE.below hbx; clear hbx o; have o := hF.own; simp only [World.size_alloc, World.size_drew, World.size_setCell, List.mem_cons, List.not_mem_nil, or_false, forall_eq_or_imp, forall_eq, At, and_true, Nat.zero_add, Nat.reduceAdd, List.set_cons_zero, List.set_cons_succ] at o))
    go_ret
    exact ⟨rfl, hF.kp⟩
end Go.Proofs.YtgegmampnpgcaaaDoor
