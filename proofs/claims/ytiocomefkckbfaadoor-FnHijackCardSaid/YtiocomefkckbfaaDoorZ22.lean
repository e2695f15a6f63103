/- FnSealRange: the walk. FnShorten: the walk. Holds drawn. -/
import Derived.Test.YtiocomefkckbfaaDoorZ21
import Derived.Test.YtiocomefkckbfaaDoorZ17
import Derived.Test.YtiocomefkckbfaaDoorZ15
import Derived.Test.YtiocomefkckbfaaDoorZ5
set_option linter.unusedSimpArgs false
set_option linter.unusedVariables false
namespace Go.Proofs.YtiocomefkckbfaaDoor
open Go.RowKit Go.Maps Go.WideMaps

theorem hold_new (w : World) (x f b : Int) : Rows (w.alloc (.cells #[.int .i64 x, .int .i64 f, .int .i64 b] 41)) (.slice (some ⟨w.heap.size, 0, none⟩) 1 1) 3 HoldD.enc [⟨x, f, b⟩] :=
  (Own.lit 41 w 0 3 HoldD.enc [⟨x, f, b⟩] (fun _ => rfl) (Nat.zero_le _) (by simp)).rows (fun _ => rfl)
set_option maxRecDepth 100000 in
set_option maxHeartbeats 8000000 in
theorem FnSealRange_walk (a0 : Option Addr) (n0 c0 : Nat) (a : Addr) (w : World) (h0 : Given w (.slice a0 n0 c0)) (hE : EPath w a) (htab : Tab w) :
    Calls Tryd.prog 6 #[.slice a0 n0 c0] w fun e w' => e = .returned (.bool true) ∧ Below w.heap.size w w' := by
  by_cases hn0 : 1048576 < n0
  · have e0 : decide (1048576 < (n0 : Int)) = true := by simp; omega
    go_enter Tryd.func6, Tryd.ntmps6
    go_wp2
    go_ret
    exact ⟨rfl, Below.refl _ _⟩
  have e0 : decide (1048576 < (n0 : Int)) = false := by simp; omega
  have hF := Fb.start w
  go_enter Tryd.func6, Tryd.ntmps6
  go_wp2_with fail
  refine (drawSealMake_any _ _ h0).mono ?_; rintro e w1 ⟨g, c, lk, ti, pv, mv, P, M, rfl, hp, hm, hP4, hM9, ht0, ht6, hb1⟩
  replace hp := hp.1
  replace hm := hm.1
  obtain ⟨o1, c1, rfl, hnc, hcc, -⟩ := hp.ex
  obtain ⟨o2, c2, rfl, -⟩ := hm.ex
  replace hF := (hF.below hb1).alloc [.int .i64 g, .int .i64 c, .slice o1 P.length c1, .int .i64 lk, .slice o2 M.length c2] 35
  have hb2 := (Below.refl w1.heap.size w1).alloc (Nat.le_refl _) (.cells #[.int .i64 g, .int .i64 c, .slice o1 P.length c1, .int .i64 lk, .slice o2 M.length c2] 35)
  replace hp := Rows.below hp hb2
  replace hm := Rows.below hm hb2
  replace hE := (hE.below hb1).below hb2
  replace htab := tab_below (tab_below htab hb1) hb2
  obtain ⟨n5, hn5⟩ : ∃ n, w1.heap.size = n := ⟨_, rfl⟩
  rw [hn5] at hF
  clear hb1 hb2 h0
  have o := hF.own; simp only [World.size_alloc, World.size_drew, World.size_setCell, List.mem_cons, List.not_mem_nil, or_false, forall_eq_or_imp, forall_eq, At, and_true, Nat.zero_add, Nat.reduceAdd, List.set_cons_zero, List.set_cons_succ] at o
  go_wp2_with fail
  refine (iSealMake_any g c lk _ _ P M ti a _ hp hm hE (by have := hP4.1; omega)).mono ?_; rintro e w2 ⟨u, rfl, hS, hb2⟩
  replace hF := hF.below hb2
  replace hp := Rows.below hp hb2
  replace hm := Rows.below hm hb2
  replace hE := hE.below hb2
  replace htab := tab_below htab hb2
  clear o
  have o := hF.own; simp only [World.size_alloc, World.size_drew, World.size_setCell, List.mem_cons, List.not_mem_nil, or_false, forall_eq_or_imp, forall_eq, At, and_true, Nat.zero_add, Nat.reduceAdd, List.set_cons_zero, List.set_cons_succ] at o
  go_wp2_with fail
  refine (sSealMake_any g c lk _ _ P M ti _ hp hm (by have := hP4.1; omega)).mono ?_; rintro e w3 ⟨u2, rfl, hS2, -, hb3⟩
  replace hF := hF.below hb3
  replace hp := Rows.below hp hb3
  replace hm := Rows.below hm hb3
  replace hE := hE.below hb3
  replace htab := tab_below htab hb3
  clear o
  replace hS := hS.below hb3
  have o := hF.own; simp only [World.size_alloc, World.size_drew, World.size_setCell, List.mem_cons, List.not_mem_nil, or_false, forall_eq_or_imp, forall_eq, At, and_true, Nat.zero_add, Nat.reduceAdd, List.set_cons_zero, List.set_cons_succ] at o
  go_wp2_with fail
  refine (lySeals_same _ _ _ _ hS.sls hS2.sls).mono ?_; rintro e w4 ⟨rfl, hb4⟩
  replace hF := hF.below hb4
  replace hp := Rows.below hp hb4
  replace hm := Rows.below hm hb4
  replace hE := hE.below hb4
  replace htab := tab_below htab hb4
  clear o
  replace hS := hS.below hb4
  have o := hF.own; simp only [World.size_alloc, World.size_drew, World.size_setCell, List.mem_cons, List.not_mem_nil, or_false, forall_eq_or_imp, forall_eq, At, and_true, Nat.zero_add, Nat.reduceAdd, List.set_cons_zero, List.set_cons_succ] at o
  clear hS2 hb2 hb3 hb4
  obtain ⟨us, uc, rfl⟩ := hS.sl
  by_cases k1 : SMk ti g c lk P M
  · have hq : Hid (sealsOf ti g c lk P M = mkN ti g c P P.length) := if_pos k1
    rw [hq.out, mkN_len] at hS
    rw [hq.out, mkN_len]
    have hn0 : 0 < P.length := k1.1.2.1
    have HM := Lib.hid (k1.sm (by have := hP4.1; omega) (Nat.le_refl _))
    have d0 : ((P.length : Int) == 0) = false := by rw [beq_eq_false_iff_ne]; omega
    have HR1 : Hid ((lacks [⟨lastP P, 0, 0⟩] (mkN ti g c P P.length) ti g c lk P M == 0) = true) := seal_own k1
    obtain ⟨b, off, rfl⟩ := Ints.some hp hn0
    obtain ⟨x, hx⟩ := get_lt (show P.length - 1 < P.length by omega)
    have hxl : lastP P = x := getD_of hx
    rw [hxl] at HR1
    have cx := Ints.get hp hx
    have d1 : ((P.length : Int) - 1).toNat = P.length - 1 := by omega
    have d3 : (1 : Int) ≤ (P.length : Int) := by omega
    have HP5 := hP4.1
    clear k1 hq hx hxl
    go_wp2_with fail
    have hH := hold_new w4 x 0 0
    have hb5 := (Below.refl w4.heap.size w4).alloc (Nat.le_refl _) (.cells #[.int .i64 x, .int .i64 0, .int .i64 0] 41)
    clear cx d1 d3
    replace hF := hF.below hb5
    replace hp := Rows.below hp hb5
    replace hm := Rows.below hm hb5
    replace hE := hE.below hb5
    replace htab := tab_below htab hb5
    clear o
    replace hS := hS.below hb5
    have o := hF.own; simp only [World.size_alloc, World.size_drew, World.size_setCell, List.mem_cons, List.not_mem_nil, or_false, forall_eq_or_imp, forall_eq, At, and_true, Nat.zero_add, Nat.reduceAdd, List.set_cons_zero, List.set_cons_succ] at o
    clear hb5
    refine (iRangeHalf_any g c true _).mono ?_; rintro e w6 ⟨rfl, hb6⟩
    replace hF := hF.below hb6
    replace hp := Rows.below hp hb6
    replace hm := Rows.below hm hb6
    replace hE := hE.below hb6
    replace htab := tab_below htab hb6
    clear o
    replace hS := hS.below hb6
    replace hH := hH.below hb6
    have o := hF.own; simp only [World.size_alloc, World.size_drew, World.size_setCell, List.mem_cons, List.not_mem_nil, or_false, forall_eq_or_imp, forall_eq, At, and_true, Nat.zero_add, Nat.reduceAdd, List.set_cons_zero, List.set_cons_succ] at o
    clear hb6
    unfold hlfV
    have HR2 : Hid (Hlf g c → (lacks [⟨x, 0, 0⟩] (mkN ti g c P P.length) ti (YtiocomefkckbfaaDoor.hF g c true) (hB g c) lk P M == 0) = false) := fun q => seal_range hn0 (hlf_bits q)
    obtain ⟨hv, hve⟩ : ∃ z, YtiocomefkckbfaaDoor.hF g c true = z := ⟨_, rfl⟩
    obtain ⟨hw, hwe⟩ : ∃ z, hB g c = z := ⟨_, rfl⟩
    rw [hve, hwe] at HR2
    rw [hve, hwe]
    clear hve hwe
    go_wp2_with fail
    have hb7 := ((Below.refl w6.heap.size w6).alloc (Nat.le_refl _) (.cells #[.int .i64 hv, .int .i64 hw] 25)).alloc (by simp) (.cells #[.int .i64 hv, .int .i64 hw, .slice (some ⟨b, off, none⟩) P.length c1, .int .i64 lk, .slice o2 M.length c2] 35)
    replace hF := (hF.alloc [.int .i64 hv, .int .i64 hw] 25).alloc [.int .i64 hv, .int .i64 hw, .slice (some ⟨b, off, none⟩) P.length c1, .int .i64 lk, .slice o2 M.length c2] 35
    replace hp := Rows.below hp hb7
    replace hm := Rows.below hm hb7
    replace hE := hE.below hb7
    replace htab := tab_below htab hb7
    replace hS := hS.below hb7
    replace hH := hH.below hb7
    clear o hb7
    have cA := iSealOk_any _ _ [⟨x, 0, 0⟩] (mkN ti g c P P.length) g c lk _ _ P M ti a _ hH hS.sls hp hm hE htab (by omega) (by rw [mkN_len]; omega) HM.out
    rw [HR1.out] at cA
    refine cA.mono ?_; rintro e w7 ⟨rfl, hb8⟩
    clear cA
    replace hF := hF.below hb8
    replace hp := Rows.below hp hb8
    replace hm := Rows.below hm hb8
    replace hE := hE.below hb8
    replace htab := tab_below htab hb8
    replace hS := hS.below hb8
    replace hH := hH.below hb8
    simp only [World.size_alloc] at hF
    have o := hF.own; simp only [World.size_alloc, World.size_drew, World.size_setCell, List.mem_cons, List.not_mem_nil, or_false, forall_eq_or_imp, forall_eq, At, and_true, Nat.zero_add, Nat.reduceAdd, List.set_cons_zero, List.set_cons_succ] at o
    clear hb8
    by_cases kh : Hlf g c
    · have d5 : decide (Hlf g c) = true := by simp [kh]
      have hR3 := HR2.out kh
      clear kh
      have cB := iSealOk_any _ _ [⟨x, 0, 0⟩] (mkN ti g c P P.length) hv hw lk _ _ P M ti a _ hH hS.sls hp hm hE htab (by omega) (by rw [mkN_len]; omega) HM.out
      rw [hR3] at cB
      have CB := Lib.hid cB
      clear cB hR3
      go_wp2_with fail
      refine CB.out.mono ?_; rintro e w8 ⟨rfl, hb9⟩
      replace hF := hF.below hb9
      clear hb9
      go_wp2
      go_ret
      exact ⟨rfl, hF.kp⟩
    · have d5 : decide (Hlf g c) = false := by simp [kh]
      clear kh
      go_wp2_with fail
      go_ret
      exact ⟨rfl, hF.kp⟩
  · have hq : Hid (sealsOf ti g c lk P M = []) := if_neg k1
    rw [hq.out] at hS ⊢
    clear k1
    simp only [List.length_nil] at hS ⊢
    go_wp2_with fail
    refine (sSealMake_any g c lk _ _ P M ti _ hp hm (by have := hP4.1; omega)).mono ?_; rintro e w3 ⟨u2, rfl, hS2, -, hb3⟩
    replace hF := hF.below hb3
    replace hS := hS.below hb3
    rw [hq.out] at hS2
    go_wp2_with fail
    refine (lySeals_same _ _ _ _ hS.sls hS2.sls).mono ?_; rintro e w4 ⟨rfl, hb4⟩
    replace hF := hF.below hb4
    clear hb3 hb4 hS hS2
    go_wp2
    go_ret
    exact ⟨rfl, hF.kp⟩
end Go.Proofs.YtiocomefkckbfaaDoor
set_option linter.unusedSimpArgs false
set_option linter.unusedVariables false
namespace Go.Proofs.YtiocomefkckbfaaDoor
open Go.RowKit Go.Maps Go.WideMaps

theorem frsh_some {w : World} {g n c : Nat} {v : Value} (h : Frsh w (.slice (some ⟨g, 0, none⟩) n c) v) : ∃ k, v.ownBlock = some k ∧ (k = g ∨ w.heap.size ≤ k) := by
  rcases h with e | ⟨k, e, hk⟩
  · exact ⟨g, e, Or.inl rfl⟩
  · exact ⟨k, e, Or.inr hk⟩
set_option maxRecDepth 100000 in
set_option maxHeartbeats 8000000 in
theorem FnShorten_walk (a0 a1 : Option Addr) (n0 c0 n1 d1 : Nat) (a : Addr) (w : World) (h0 : Given w (.slice a0 n0 c0)) (h1 : Given w (.slice a1 n1 d1)) (hE : EPath w a) (htab : Tab w) :
    Calls Tryd.prog 5 #[.slice a0 n0 c0, .slice a1 n1 d1] w fun e w' => e = .returned (.bool true) ∧ Below w.heap.size w w' := by
  by_cases hn0 : 1048576 < n0
  · have e0 : decide (1048576 < (n0 : Int)) = true := by simp; omega
    go_enter Tryd.func5, Tryd.ntmps5
    go_wp2
    go_ret
    exact ⟨rfl, Below.refl _ _⟩
  have e0 : decide (1048576 < (n0 : Int)) = false := by simp; omega
  by_cases hn1 : 1048576 < n1
  · have e1 : decide (1048576 < (n1 : Int)) = true := by simp; omega
    go_enter Tryd.func5, Tryd.ntmps5
    go_wp2
    go_ret
    exact ⟨rfl, Below.refl _ _⟩
  have e1 : decide (1048576 < (n1 : Int)) = false := by simp; omega
  have hF := Fb.start w
  go_enter Tryd.func5, Tryd.ntmps5
  go_wp2_with fail
  refine (drawSealMake_any _ _ h0).mono ?_; rintro e w1 ⟨g, c, lk, ti, pv, mv, P, M, rfl, hp, hm, hP4, hM9, ht0, ht6, hb1⟩
  replace hp := hp.1
  replace hm := hm.1
  obtain ⟨o1, c1, rfl, hnc, hcc, -⟩ := hp.ex
  obtain ⟨o2, c2, rfl, -⟩ := hm.ex
  replace hF := (hF.below hb1).alloc [.int .i64 g, .int .i64 c, .slice o1 P.length c1, .int .i64 lk, .slice o2 M.length c2] 35
  have hb2 := (Below.refl w1.heap.size w1).alloc (Nat.le_refl _) (.cells #[.int .i64 g, .int .i64 c, .slice o1 P.length c1, .int .i64 lk, .slice o2 M.length c2] 35)
  replace hp := Rows.below hp hb2
  replace hm := Rows.below hm hb2
  replace hE := (hE.below hb1).below hb2
  replace htab := tab_below (tab_below htab hb1) hb2
  obtain ⟨n5, hn5⟩ : ∃ n, w1.heap.size = n := ⟨_, rfl⟩
  rw [hn5] at hF
  clear hb1 hb2 h0
  have o := hF.own; simp only [World.size_alloc, World.size_drew, World.size_setCell, List.mem_cons, List.not_mem_nil, or_false, forall_eq_or_imp, forall_eq, At, and_true, Nat.zero_add, Nat.reduceAdd, List.set_cons_zero, List.set_cons_succ] at o
  go_wp2_with fail
  refine (iSealMake_any g c lk _ _ P M ti a _ hp hm hE (by have := hP4.1; omega)).mono ?_; rintro e w2 ⟨u, rfl, hS, hb2⟩
  replace hF := hF.below hb2
  replace hp := Rows.below hp hb2
  replace hm := Rows.below hm hb2
  replace hE := hE.below hb2
  replace htab := tab_below htab hb2
  clear o
  have o := hF.own; simp only [World.size_alloc, World.size_drew, World.size_setCell, List.mem_cons, List.not_mem_nil, or_false, forall_eq_or_imp, forall_eq, At, and_true, Nat.zero_add, Nat.reduceAdd, List.set_cons_zero, List.set_cons_succ] at o
  go_wp2_with fail
  refine (sSealMake_any g c lk _ _ P M ti _ hp hm (by have := hP4.1; omega)).mono ?_; rintro e w3 ⟨u2, rfl, hS2, -, hb3⟩
  replace hF := hF.below hb3
  replace hp := Rows.below hp hb3
  replace hm := Rows.below hm hb3
  replace hE := hE.below hb3
  replace htab := tab_below htab hb3
  clear o
  replace hS := hS.below hb3
  have o := hF.own; simp only [World.size_alloc, World.size_drew, World.size_setCell, List.mem_cons, List.not_mem_nil, or_false, forall_eq_or_imp, forall_eq, At, and_true, Nat.zero_add, Nat.reduceAdd, List.set_cons_zero, List.set_cons_succ] at o
  go_wp2_with fail
  refine (lySeals_same _ _ _ _ hS.sls hS2.sls).mono ?_; rintro e w4 ⟨rfl, hb4⟩
  replace hF := hF.below hb4
  replace hp := Rows.below hp hb4
  replace hm := Rows.below hm hb4
  replace hE := hE.below hb4
  replace htab := tab_below htab hb4
  clear o
  replace hS := hS.below hb4
  have o := hF.own; simp only [World.size_alloc, World.size_drew, World.size_setCell, List.mem_cons, List.not_mem_nil, or_false, forall_eq_or_imp, forall_eq, At, and_true, Nat.zero_add, Nat.reduceAdd, List.set_cons_zero, List.set_cons_succ] at o
  clear hS2 hb2 hb3 hb4
  obtain ⟨us, uc, rfl⟩ := hS.sl
  by_cases k1 : SMk ti g c lk P M
  · have hq : Hid (sealsOf ti g c lk P M = mkN ti g c P P.length) := if_pos k1
    rw [hq.out, mkN_len] at hS
    rw [hq.out, mkN_len]
    by_cases h2 : P.length < 2
    · have d2 : decide ((P.length : Int) < 2) = true := decide_eq_true (by omega)
      clear k1 h2
      go_wp2_with fail
      refine (sSealMake_any g c lk _ _ P M ti _ hp hm (by have := hP4.1; omega)).mono ?_; rintro e w3 ⟨u2, rfl, hS2, -, hb3⟩
      replace hF := hF.below hb3
      replace hS := hS.below hb3
      rw [hq.out] at hS2
      go_wp2_with fail
      refine (lySeals_same _ _ _ _ hS.sls hS2.sls).mono ?_; rintro e w4 ⟨rfl, hb4⟩
      replace hF := hF.below hb4
      clear hb3 hb4 hS hS2
      go_wp2
      go_ret
      exact ⟨rfl, hF.kp⟩
    · have d2 : decide ((P.length : Int) < 2) = false := decide_eq_false (by omega)
      have HM := Lib.hid (k1.sm (by have := hP4.1; omega) (Nat.le_refl _))
      have HK := Lib.hid k1
      obtain ⟨b, off, rfl⟩ := Ints.some hp (by omega)
      obtain ⟨x, hx⟩ := get_lt (show P.length - 1 < P.length by omega)
      have hxl : Hid (lastP P = x) := getD_of hx
      have cx := Ints.get hp hx
      have e1 : ((P.length : Int) - 1).toNat = P.length - 1 := by omega
      have e3 : (2 : Int) ≤ (P.length : Int) := by omega
      have HP5 := hP4.1
      obtain ⟨k, hk⟩ : ∃ k : Nat, (n1 : Int) % ((P.length : Int) - 1) = (k : Int) := ⟨((n1 : Int) % ((P.length : Int) - 1)).toNat, by rw [Int.toNat_of_nonneg (Int.emod_nonneg _ (by omega))]⟩
      have hkl : k < P.length - 1 := by have := Int.emod_lt_of_pos (n1 : Int) (show (0 : Int) < (P.length : Int) - 1 by omega); omega
      have m0 : (0 : Int) ≤ (n1 : Int) := by omega
      clear k1 hq hx h2
      go_upto_region 9 with (fail)
      rw [hk]
      have hH := hold_new w4 x 0 0
      obtain ⟨wb, hwb⟩ : ∃ wb : World, wb = w4.alloc (.cells #[.int .i64 x, .int .i64 0, .int .i64 0] 41) := ⟨_, rfl⟩
      have hb5 : Below w4.heap.size w4 wb := by rw [hwb]; exact (Below.refl w4.heap.size w4).alloc (Nat.le_refl _) _
      rw [← hwb] at hH ⊢
      clear hwb cx
      replace hF := hF.below hb5
      replace hp := Rows.below hp hb5
      replace hm := Rows.below hm hb5
      replace hE := hE.below hb5
      replace htab := tab_below htab hb5
      clear o
      replace hS := hS.below hb5
      have o := hF.own; simp only [World.size_alloc, World.size_drew, World.size_setCell, List.mem_cons, List.not_mem_nil, or_false, forall_eq_or_imp, forall_eq, At, and_true, Nat.zero_add, Nat.reduceAdd, List.set_cons_zero, List.set_cons_succ] at o
      have HC := Lib.hid (show wb.cell? ⟨n5, 0, none⟩ = some (.int .i64 g) ∧ wb.cell? ⟨n5, 1, none⟩ = some (.int .i64 c) ∧ wb.cell? ⟨n5, 2, none⟩ = some (.slice (some ⟨b, off, none⟩) P.length c1) ∧ wb.cell? ⟨n5, 3, none⟩ = some (.int .i64 lk) ∧ wb.cell? ⟨n5, 4, none⟩ = some (.slice o2 M.length c2) by simp [o])
      have HS := Lib.hid hS.sls
      have HP := Lib.hid hp
      have HMv := Lib.hid hm
      have HE := Lib.hid hE
      have HT := Lib.hid htab
      have HF := Lib.hid hF.kp
      have HH := Lib.hid hH
      have hQ := Fb.start wb
      have HT1 := Lib.hid (rows_take hp (k := k) (by omega))
      have HT2 := Lib.hid (ints_dropS hp (k := k + 1) (by omega))
      clear hS hp hm hE htab hF hH o hb5 hk
      have g0 : (0 : Int) ≤ (k : Int) := by omega
      have g1 : (k : Int) ≤ (c1 : Int) := by omega
      have g2 : (k : Int) + 1 ≤ (P.length : Int) := by omega
      have g4 : IntKind.i64.wrap ((k : Int) + 1) = (k : Int) + 1 := IntWalk.i64_in _ (by omega)
      have g5 : ((k : Int) + 1).toNat = k + 1 := by omega
      have g6 : (0 : Int) ≤ (k : Int) + 1 := by omega
      have g7 : (P.length : Int) ≤ (c1 : Int) := by omega
      have g8 : (k : Int) + 1 ≤ (c1 : Int) := by omega
      have g9 : ¬ c1 = k + 1 := by omega
      have tok2 : True := trivial
      have tok3 : True := trivial
      obtain ⟨q0, q1, q2, q3, q4⟩ := HC.out
      go_cut [10] (fun s10 wx => ∃ (β : Nat) (ua : Option Addr) (un uk : Nat), s10 = .pointer (some ⟨β, 0, none⟩) ∧ Fb wb wx [(β, [.int .i64 g, .int .i64 c, .slice ua un uk, .int .i64 0, .slice o2 M.length c2])] ∧ Ints wx (.slice ua un uk) (P.take k ++ P.drop (k + 1)))
      case first =>
        go_region_held3 (fun w' => w'.cell? ⟨n5, 0, none⟩ = some (.int .i64 g) ∧ w'.cell? ⟨n5, 1, none⟩ = some (.int .i64 c) ∧ w'.cell? ⟨n5, 2, none⟩ = some (.slice (some ⟨b, off, none⟩) P.length c1) ∧ w'.cell? ⟨n5, 4, none⟩ = some (.slice o2 M.length c2))
          (first | (with_reducible assumption) | (refine ⟨?_, ?_, ?_, ?_⟩; exact Fb.old (w := wb) (L := []) (by repeat (first | (with_reducible assumption) | (with_reducible apply Fb.drew) | (with_reducible apply Fb.other) | (with_reducible apply Fb.setAway) | (intro q hq; cases hq) | (have := hQ.kp.size; (try simp only [World.size_alloc, World.size_drew, World.size_setCell]); (try dsimp only); omega))) HC.out.1; exact Fb.old (w := wb) (L := []) (by repeat (first | (with_reducible assumption) | (with_reducible apply Fb.drew) | (with_reducible apply Fb.other) | (with_reducible apply Fb.setAway) | (intro q hq; cases hq) | (have := hQ.kp.size; (try simp only [World.size_alloc, World.size_drew, World.size_setCell]); (try dsimp only); omega))) HC.out.2.1; exact Fb.old (w := wb) (L := []) (by repeat (first | (with_reducible assumption) | (with_reducible apply Fb.drew) | (with_reducible apply Fb.other) | (with_reducible apply Fb.setAway) | (intro q hq; cases hq) | (have := hQ.kp.size; (try simp only [World.size_alloc, World.size_drew, World.size_setCell]); (try dsimp only); omega))) HC.out.2.2.1; exact Fb.old (w := wb) (L := []) (by repeat (first | (with_reducible assumption) | (with_reducible apply Fb.drew) | (with_reducible apply Fb.other) | (with_reducible apply Fb.setAway) | (intro q hq; cases hq) | (have := hQ.kp.size; (try simp only [World.size_alloc, World.size_drew, World.size_setCell]); (try dsimp only); omega))) HC.out.2.2.2.2))
          (first
            | (clear tok2; refine step_appsM (by rfl) _ _ 26 (by rfl) 3 (.int .i64 0) 1 8 Tryd.underlying26 infoInt rfl (by decide) (by decide) wb.heap.size encI (fun _ => rfl) (.slice (some ⟨_, 0, none⟩) 0 0) [] (by rfl) (by repeat (first | (with_reducible assumption) | (with_reducible apply Own.drew) | exact Own.madeS _ _ _ _ _ _ (by simp) (Below.size (Fb.kp (W := wb) (L := []) (by repeat (first | (with_reducible assumption) | (with_reducible apply Fb.drew) | (with_reducible apply Fb.other) | (with_reducible apply Fb.setAway) | (intro q hq; cases hq) | (have := hQ.kp.size; (try simp only [World.size_alloc, World.size_drew, World.size_setCell]); (try dsimp only); omega))))) | apply Own.alloc)) b off k c1 (P.take k) (fun _ _ u hu => by simp [encI] at hu; subst hu; rfl) (by rfl) (HT1.out.below (Fb.kp (W := wb) (L := []) (by repeat (first | (with_reducible assumption) | (with_reducible apply Fb.drew) | (with_reducible apply Fb.other) | (with_reducible apply Fb.setAway) | (intro q hq; cases hq) | (have := hQ.kp.size; (try simp only [World.size_alloc, World.size_drew, World.size_setCell]); (try dsimp only); omega))))) (by simp; omega) (Below.size (Fb.kp (W := wb) (L := []) (by repeat (first | (with_reducible assumption) | (with_reducible apply Fb.drew) | (with_reducible apply Fb.other) | (with_reducible apply Fb.setAway) | (intro q hq; cases hq) | (have := hQ.kp.size; (try simp only [World.size_alloc, World.size_drew, World.size_setCell]); (try dsimp only); omega))))) ?_; intro v8 w8 hO8 hg8 hb8 hf8; rw [List.nil_append] at hO8; replace hQ := Fb.belowB (W := wb) (L := []) (by repeat (first | (with_reducible assumption) | (with_reducible apply Fb.drew) | (with_reducible apply Fb.other) | (with_reducible apply Fb.setAway) | (intro q hq; cases hq) | (have := hQ.kp.size; (try simp only [World.size_alloc, World.size_drew, World.size_setCell]); (try dsimp only); omega))) hb8 (Nat.le_refl _) (by simp); obtain ⟨g8, e8, h8⟩ := frsh_some hf8; have hF8 := Fb.grown (W := wb) (by repeat (first | (with_reducible exact Fb.start _) | (with_reducible assumption) | (with_reducible apply Fb.drew) | (with_reducible apply Fb.alloc_5) | (with_reducible apply Fb.other))) hg8 (by (try simp only [World.size_alloc, World.size_drew]); omega) (by intro p hp; simp only [List.mem_cons, List.not_mem_nil, or_false] at hp <;> (subst hp; (try simp only [World.size_alloc, World.size_drew]); (try dsimp only); omega)); have l8 := hO8.lt g8 e8; have s8 := hb8.size; (try simp only [World.size_alloc, World.size_drew] at s8); (try simp only [World.size_alloc, World.size_drew] at h8); clear hg8 hb8 hf8)
            | (clear tok3; refine step_appsM (by rfl) _ _ 26 (by rfl) 3 (.int .i64 0) 1 8 Tryd.underlying26 infoInt rfl (by decide) (by decide) wb.heap.size encI (fun _ => rfl) v8 (P.take k) (by rfl) (by repeat (first | (with_reducible assumption) | (with_reducible apply Own.drew) | (with_reducible apply Own.alloc))) b (off + (k + 1)) (P.length - (k + 1)) (c1 - (k + 1)) (P.drop (k + 1)) (fun _ _ u hu => by simp [encI] at hu; subst hu; rfl) (by rfl) (Rows.below HT2.out (Fb.kp (W := wb) (L := []) (by repeat (first | (with_reducible assumption) | (with_reducible apply Fb.drew) | (with_reducible apply Fb.other) | (with_reducible apply Fb.setAway) | (intro q hq; cases hq) | (have := hQ.kp.size; (try simp only [World.size_alloc, World.size_drew, World.size_setCell]); (try dsimp only); omega))))) (by rw [List.length_take]; omega) (Below.size (Fb.kp (W := wb) (L := []) (by repeat (first | (with_reducible assumption) | (with_reducible apply Fb.drew) | (with_reducible apply Fb.other) | (with_reducible apply Fb.setAway) | (intro q hq; cases hq) | (have := hQ.kp.size; (try simp only [World.size_alloc, World.size_drew, World.size_setCell]); (try dsimp only); omega))))) ?_; intro v9 w9 hO9 hg9 hb9 hf9; replace hQ := Fb.belowB (W := wb) (L := []) (by repeat (first | (with_reducible assumption) | (with_reducible apply Fb.drew) | (with_reducible apply Fb.other) | (with_reducible apply Fb.setAway) | (intro q hq; cases hq) | (have := hQ.kp.size; (try simp only [World.size_alloc, World.size_drew, World.size_setCell]); (try dsimp only); omega))) hb9 (Nat.le_refl _) (by simp); rw [e8] at hg9; have hF9 := Fb.grown (W := wb) (by repeat (first | (with_reducible exact Fb.start _) | (with_reducible assumption) | (with_reducible apply Fb.drew) | (with_reducible apply Fb.alloc_5) | (with_reducible apply Fb.other))) hg9 (hO8.ge g8 e8) (by intro p hp; simp only [List.mem_cons, List.not_mem_nil, or_false] at hp <;> (subst hp; (try simp only [World.size_alloc, World.size_drew]); (try dsimp only); omega)); obtain ⟨ua, un, uk, rfl⟩ : ∃ a n c, v9 = Value.slice a n c := (by obtain ⟨a9, c9, e9⟩ := hO9.sl; exact ⟨_, _, _, e9⟩); have hu9 := Lib.hid hO9; have hfr9 := Lib.hid hf9; have o9 := hF9.own; simp only [World.size_alloc, World.size_drew, List.mem_cons, List.not_mem_nil, or_false, forall_eq, false_implies, implies_true, At, and_true, Nat.zero_add, Nat.reduceAdd] at o9; have HF9 := Lib.hid hF9; clear hF8 hF9 hO9 hf9 hg9 hb9))
        · obtain ⟨wz, hwz, hFz, hsz, hrz⟩ := newF5 HF9.out 35 (.int .i64 g) (.int .i64 c) (.slice ua un uk) (.int .i64 0) (.slice o2 M.length c2)
          have hI := hrz _ _ (Own.rows hu9.out (fun _ => rfl))
          rw [← hwz]
          rename_i hHd; clear hHd
          clear hwz o9
          go_wp2_with fail
          go_meet
          case rel => exact ⟨_, ua, un, uk, rfl, hFz, hI⟩
        all_goals
          (try simp only [World.size_alloc, World.size_drew] at HF9)
          obtain ⟨wz, hwz, hFz, hsz, hrz⟩ := putF5 HF9.out (by simp) (.int .i64 g) (.int .i64 c) (.slice ua un uk) (.int .i64 0) (.slice o2 M.length c2)
          have hI := hrz _ _ (fun e => by
            have hh := hfr9.out
            rcases hh with q | ⟨k9, q, hk9⟩
            · rw [e8, e] at q; injection q with q; (try simp only [World.size_alloc, World.size_drew] at q); omega
            · rw [e] at q; injection q with q; (try simp only [World.size_alloc, World.size_drew] at hk9); omega) (Own.rows hu9.out (fun _ => rfl))
          rw [← hwz]
          rename_i hHd; clear hHd
          clear hwz o9
          go_wp2_with fail
          go_meet
          case rel => exact ⟨_, ua, un, uk, rfl, hFz, hI⟩
      case rest =>
        obtain ⟨β, ua, un, uk, rfl, hFb, hU⟩ := hcut
        clear q0 q1 q2 q3 q4 hQ tok2 tok3
        have q0 := hFb.old HC.out.1
        have q1 := hFb.old HC.out.2.1
        have q2 := hFb.old HC.out.2.2.1
        have q4 := hFb.old HC.out.2.2.2.2
        obtain ⟨we, hwe⟩ : ∃ we : World, we = wc := ⟨_, rfl⟩
        rw [← hwe] at hFb hU q0 q1 q2 q4 ⊢
        clear hwe
        have HC2 := Lib.hid (⟨q0, q1, q2, q4⟩ : we.cell? ⟨n5, 0, none⟩ = some (.int .i64 g) ∧ we.cell? ⟨n5, 1, none⟩ = some (.int .i64 c) ∧ we.cell? ⟨n5, 2, none⟩ = some (.slice (some ⟨b, off, none⟩) P.length c1) ∧ we.cell? ⟨n5, 4, none⟩ = some (.slice o2 M.length c2))
        have hQ := Fb.start we
        have HFb := Lib.hid hFb
        have HU := Lib.hid hU
        clear hFb hU
        go_upto_region 10 with (fail)
        go_region_held3 (fun w' => w'.cell? ⟨n5, 0, none⟩ = some (.int .i64 g) ∧ w'.cell? ⟨n5, 1, none⟩ = some (.int .i64 c) ∧ w'.cell? ⟨n5, 2, none⟩ = some (.slice (some ⟨b, off, none⟩) P.length c1) ∧ w'.cell? ⟨n5, 4, none⟩ = some (.slice o2 M.length c2))
          (first | (with_reducible assumption) | (refine ⟨?_, ?_, ?_, ?_⟩; exact Fb.old (w := we) (L := []) (by repeat (first | (with_reducible assumption) | (with_reducible apply Fb.drew) | (with_reducible apply Fb.other) | (with_reducible apply Fb.setAway) | (intro q hq; cases hq) | (have := hQ.kp.size; (try simp only [World.size_alloc, World.size_drew, World.size_setCell]); (try dsimp only); omega))) HC2.out.1; exact Fb.old (w := we) (L := []) (by repeat (first | (with_reducible assumption) | (with_reducible apply Fb.drew) | (with_reducible apply Fb.other) | (with_reducible apply Fb.setAway) | (intro q hq; cases hq) | (have := hQ.kp.size; (try simp only [World.size_alloc, World.size_drew, World.size_setCell]); (try dsimp only); omega))) HC2.out.2.1; exact Fb.old (w := we) (L := []) (by repeat (first | (with_reducible assumption) | (with_reducible apply Fb.drew) | (with_reducible apply Fb.other) | (with_reducible apply Fb.setAway) | (intro q hq; cases hq) | (have := hQ.kp.size; (try simp only [World.size_alloc, World.size_drew, World.size_setCell]); (try dsimp only); omega))) HC2.out.2.2.1; exact Fb.old (w := we) (L := []) (by repeat (first | (with_reducible assumption) | (with_reducible apply Fb.drew) | (with_reducible apply Fb.other) | (with_reducible apply Fb.setAway) | (intro q hq; cases hq) | (have := hQ.kp.size; (try simp only [World.size_alloc, World.size_drew, World.size_setCell]); (try dsimp only); omega))) HC2.out.2.2.2))
          (fail)
        all_goals
          rename_i hHd; clear hHd
          obtain ⟨wd, hwd⟩ : ∃ wd : World, wd = (we.alloc (.cells #[.int .i64 g, .int .i64 c, .slice (some ⟨b, off + (k + 1), none⟩) (P.length - (k + 1)) (c1 - (k + 1)), .int .i64 0, .slice o2 M.length c2] 35)).drew := ⟨_, rfl⟩
          have hD := (HFb.out.alloc [.int .i64 g, .int .i64 c, .slice (some ⟨b, off + (k + 1), none⟩) (P.length - (k + 1)) (c1 - (k + 1)), .int .i64 0, .slice o2 M.length c2] 35).drew
          have hUd := Rows.drew (Rows.alloc HU.out (.cells #[.int .i64 g, .int .i64 c, .slice (some ⟨b, off + (k + 1), none⟩) (P.length - (k + 1)) (c1 - (k + 1)), .int .i64 0, .slice o2 M.length c2] 35))
          clear hQ q0 q1 q2 q4
          have hD : Fb wb wd [(we.heap.size, [.int .i64 g, .int .i64 c, .slice (some ⟨b, off + (k + 1), none⟩) (P.length - (k + 1)) (c1 - (k + 1)), .int .i64 0, .slice o2 M.length c2]), (β, [.int .i64 g, .int .i64 c, .slice ua un uk, .int .i64 0, .slice o2 M.length c2])] := by rw [hwd]; exact hD
          have hUd : Ints wd (.slice ua un uk) (P.take k ++ P.drop (k + 1)) := by rw [hwd]; exact hUd
          obtain ⟨pk, hpk⟩ := get_lt (show k < P.length by omega)
          have hpg : P.getD k 0 = pk := getD_of hpk
          have cpk := hD.old (Ints.get HP.out hpk)
          have z2 := hD.old HC.out.2.2.1
          obtain ⟨oi, hoi⟩ : ∃ z, 1 + (n1 : Int) % 5 = z := ⟨_, rfl⟩
          have HA := short_no (H := [⟨x, 0, 0⟩]) HK.out (by omega) hkl
          have HR := short_rest HK.out hkl
          rw [hxl.out, hpg] at HR
          have HOt := fun q => short_other (H := [⟨x, 0, 0⟩]) (o := oi) HK.out hkl (by rw [hpg]; exact q)
          have hrl : (P.drop (k + 1)).length = P.length - (k + 1) := List.length_drop ..
          have hlsl : (P.take k ++ P.drop (k + 1)).length ≤ 1000 := by rw [List.length_append, List.length_take, List.length_drop]; omega
          have CA := Lib.hid (fun z : Cl wd.heap.size wd => (show Calls Tryd.prog 19 #[.slice (some ⟨w4.heap.size, 0, none⟩) 1 1, .slice us P.length uc, .agg #[.int .i64 g, .int .i64 c, .slice ua un uk, .int .i64 0, .slice o2 M.length c2], .int .i64 ti] z.W fun e w' => e = .returned (.bool false) ∧ Below z.W.heap.size z.W w' from by have := iSealOk_any _ _ [⟨x, 0, 0⟩] (mkN ti g c P P.length) g c 0 _ _ _ M ti a z.W (HH.out.below (hD.cl z).kp) (HS.out.below (hD.cl z).kp) (Rows.below hUd z.below) (Rows.below HMv.out (hD.cl z).kp) (HE.out.below (hD.cl z).kp) (tab_below HT.out (hD.cl z).kp) hlsl (by rw [mkN_len]; omega) HM.out; rwa [HA] at this))
          have CB := Lib.hid (fun z : Cl wd.heap.size wd => (show Calls Tryd.prog 19 #[.slice (some ⟨w4.heap.size, 0, none⟩) 1 1, .slice us P.length uc, .agg #[.int .i64 g, .int .i64 c, .slice (some ⟨b, off + (k + 1), none⟩) (P.length - (k + 1)) (c1 - (k + 1)), .int .i64 0, .slice o2 M.length c2], .int .i64 pk] z.W fun e w' => e = .returned (.bool true) ∧ Below z.W.heap.size z.W w' from by have := iSealOk_any _ _ [⟨x, 0, 0⟩] (mkN ti g c P P.length) g c 0 _ _ (P.drop (k + 1)) M pk a z.W (HH.out.below (hD.cl z).kp) (HS.out.below (hD.cl z).kp) (Rows.below HT2.out (hD.cl z).kp) (Rows.below HMv.out (hD.cl z).kp) (HE.out.below (hD.cl z).kp) (tab_below HT.out (hD.cl z).kp) (by rw [hrl]; omega) (by rw [mkN_len]; omega) HM.out; rwa [HR] at this))
          have CC := Lib.hid (fun (q : oi ≠ pk) (z : Cl wd.heap.size wd) => (show Calls Tryd.prog 19 #[.slice (some ⟨w4.heap.size, 0, none⟩) 1 1, .slice us P.length uc, .agg #[.int .i64 g, .int .i64 c, .slice (some ⟨b, off + (k + 1), none⟩) (P.length - (k + 1)) (c1 - (k + 1)), .int .i64 0, .slice o2 M.length c2], .int .i64 oi] z.W fun e w' => e = .returned (.bool false) ∧ Below z.W.heap.size z.W w' from by have := iSealOk_any _ _ [⟨x, 0, 0⟩] (mkN ti g c P P.length) g c 0 _ _ (P.drop (k + 1)) M oi a z.W (HH.out.below (hD.cl z).kp) (HS.out.below (hD.cl z).kp) (Rows.below HT2.out (hD.cl z).kp) (Rows.below HMv.out (hD.cl z).kp) (HE.out.below (hD.cl z).kp) (tab_below HT.out (hD.cl z).kp) (by rw [hrl]; omega) (by rw [mkN_len]; omega) HM.out; rwa [HOt q] at this))
          go_wp2_with fail
          rw [← hwd]
          (try rw [hoi])
          have hLin := fun z : Cl wd.heap.size wd => lyIn_any _ (P.drop (k + 1)) oi z.W (Rows.below HT2.out (hD.cl z).kp)
          have cpkz := fun z : Cl wd.heap.size wd => z.cell cpk
          have z2z := fun z : Cl wd.heap.size wd => z.cell z2
          have oc := fun z : Cl wd.heap.size wd => (Fb.cl hD z).own
          simp only [List.mem_cons, List.not_mem_nil, or_false, forall_eq_or_imp, forall_eq, At, and_true, Nat.zero_add, Nat.reduceAdd] at oc
          have HDk := Lib.hid hD.kp
          have gk : (k : Int) < (P.length : Int) := by omega
          clear HA HR HOt hrl hlsl hUd hD hoi cpk z2 hpk hpg hwd m0 hkl
          by_cases hq : oi = pk
          · have d1 : (oi == pk) = true := by simp [hq]
            clear hLin hq CC
            first | refine wp_region_new (by kernel_rfl) (by kernel_rfl) ?_ | refine wp_region_lex ?_
            repeat (any_goals (first | go_big_quiet_step ((first | (go_at_call 19; with_reducible exact Calls.cl (CA.out _)) | (go_at_call 19; with_reducible exact Calls.cl (CB.out _)) | (go_at_call 20; with_reducible exact Calls.cl (HL.out _)) | (go_at_call 19; with_reducible exact Calls.cl (CC2.out _)))) | (refine wpQuiet_step (fun K hK => ?_); go_simp; split <;> (rename_i hg; refine hK _ ?_; clear hK K; simp only [hg, decide_true, decide_false]))))
            all_goals (refine wpQuiet_nil ?_; intro x)
            go_wp2
            go_ret
            exact ⟨rfl, HF.out.trans ((HDk.out.trans ((x.below).mono HDk.out.size)).mono HF.out.size)⟩
          · have d1 : (oi == pk) = false := by simp [hq]
            have CC2 := Lib.hid (CC.out hq)
            by_cases hi : oi ∈ P.drop (k + 1)
            · have HL := Lib.hid (fun z : Cl wd.heap.size wd => (show Calls Tryd.prog 20 #[.slice (some ⟨b, off + (k + 1), none⟩) (P.length - (k + 1)) (c1 - (k + 1)), .int .i64 oi] z.W fun e w' => e = .returned (.bool true) ∧ Below z.W.heap.size z.W w' from by have := hLin z; rwa [decide_eq_true hi] at this))
              clear hLin hq hi CC
              have tokA : True := trivial
              first | refine wp_region_new (by kernel_rfl) (by kernel_rfl) ?_ | refine wp_region_lex ?_
              repeat (any_goals (first | go_big_quiet_step ((first | (go_at_call 19; with_reducible exact Calls.cl (CA.out _)) | (go_at_call 19; with_reducible exact Calls.cl (CB.out _)) | (go_at_call 20; with_reducible exact Calls.cl (HL.out _)) | (go_at_call 19; with_reducible exact Calls.cl (CC2.out _)))) | (refine wpQuiet_step (fun K hK => ?_); go_simp; split <;> (rename_i hg; refine hK _ ?_; clear hK K; simp only [hg, decide_true, decide_false]))))
              all_goals (refine wpQuiet_nil ?_; intro x)
              go_wp2
              go_ret
              exact ⟨rfl, HF.out.trans ((HDk.out.trans ((x.below).mono HDk.out.size)).mono HF.out.size)⟩
            · have HL := Lib.hid (fun z : Cl wd.heap.size wd => (show Calls Tryd.prog 20 #[.slice (some ⟨b, off + (k + 1), none⟩) (P.length - (k + 1)) (c1 - (k + 1)), .int .i64 oi] z.W fun e w' => e = .returned (.bool false) ∧ Below z.W.heap.size z.W w' from by have := hLin z; rwa [decide_eq_false hi] at this))
              clear hLin hq hi CC
              first | refine wp_region_new (by kernel_rfl) (by kernel_rfl) ?_ | refine wp_region_lex ?_
              repeat (any_goals (first | go_big_quiet_step ((first | (go_at_call 19; with_reducible exact Calls.cl (CA.out _)) | (go_at_call 19; with_reducible exact Calls.cl (CB.out _)) | (go_at_call 20; with_reducible exact Calls.cl (HL.out _)) | (go_at_call 19; with_reducible exact Calls.cl (CC2.out _)))) | (refine wpQuiet_step (fun K hK => ?_); go_simp; split <;> (rename_i hg; refine hK _ ?_; clear hK K; simp only [hg, decide_true, decide_false]))))
              all_goals (refine wpQuiet_nil ?_; intro x)
              go_wp2
              go_ret
              exact ⟨rfl, HF.out.trans ((HDk.out.trans ((x.below).mono HDk.out.size)).mono HF.out.size)⟩
  · have hq : Hid (sealsOf ti g c lk P M = []) := if_neg k1
    rw [hq.out] at hS ⊢
    clear k1
    simp only [List.length_nil] at hS ⊢
    go_wp2_with fail
    refine (sSealMake_any g c lk _ _ P M ti _ hp hm (by have := hP4.1; omega)).mono ?_; rintro e w3 ⟨u2, rfl, hS2, -, hb3⟩
    replace hF := hF.below hb3
    replace hS := hS.below hb3
    rw [hq.out] at hS2
    go_wp2_with fail
    refine (lySeals_same _ _ _ _ hS.sls hS2.sls).mono ?_; rintro e w4 ⟨rfl, hb4⟩
    replace hF := hF.below hb4
    clear hb3 hb4 hS hS2
    go_wp2
    go_ret
    exact ⟨rfl, hF.kp⟩
end Go.Proofs.YtiocomefkckbfaaDoor
set_option linter.unusedSimpArgs false
set_option linter.unusedVariables false
namespace Go.Proofs.YtiocomefkckbfaaDoor
open Go.RowKit

theorem infoHold : (Tryd.prog.info? 41).map (fun i => (i.zero, i.size, i.bytes)) = some (some (.agg #[.int .i64 0, .int .i64 0, .int .i64 0]), 3, 24) := by kernel_rfl
def SmH (a b : Int) : Prop := -300 ≤ a ∧ a ≤ 600 ∧ -300 ≤ b ∧ b ≤ 600
def HoldD.sm (x : HoldD) : Prop := 0 ≤ x.h ∧ x.h ≤ 600 ∧ SmH x.f x.b

set_option maxHeartbeats 1000000 in
theorem l92HoldsO_any (r k : Nat) (w : World) (hR : Rd w r k) (hk : k ≤ 700000) :
    Calls Tryd.prog 55 #[.pointer (some ⟨r, 0, none⟩)] w fun e w' => ∃ (v : Value) (L : List HoldD), e = .returned v ∧ Own 41 w' w.heap.size v 3 HoldD.enc L ∧ L.length ≤ 4 ∧ (∀ x ∈ L, x.sm) ∧ (∃ k', k' ≤ k + 100 ∧ Rd w' r k') ∧ Kp r w w' := by
  have hr := hR.lt
  obtain ⟨i0, hi, hz0, hz1, hz2⟩ := info_parts infoHold
  have hF := Fr.start r w
  go_enter Tryd.func55, Tryd.ntmps55
  go_wp2_with fail
  have hO : (w.alloc (.cells #[] 41)).ownsRow w.heap.size 41 3 (.slice (some ⟨w.heap.size, 0, none⟩) 0 0) 0 [] := World.ownsRow_made (hb := Nat.le_refl _) (hm := Nat.zero_le _) (hs := rfl)
  replace hF := hF.other (.cells #[] 41)
  refine (pick_any r _ _ _ (hR.alloc _) (by omega) (by omega) (by omega)).mono ?_; rintro e w1 ⟨m0, rfl, u0, l0, hR1, hK1⟩
  replace hF := hF.call hK1
  replace hO := own_kp hO hK1 hr
  clear hR hK1
  obtain ⟨m0, rfl⟩ := Int.eq_ofNat_of_zero_le u0
  go_wp2_with fail
  go_loopw [3, 4] (fun v i wr => ∃ (m k' : Nat) (L : List HoldD), i = .int .i64 m ∧ L.length + m ≤ 4 ∧ k' + 12 * m ≤ k + 60 ∧ wr.ownsRow w.heap.size 41 3 v L.length (L.flatMap HoldD.enc) ∧ Hid (∀ x ∈ L, x.sm) ∧ Rd wr r k' ∧ Fr r w wr []) (fun _ i _ => (intOf i).toNat)
  case atStart => exact ⟨m0, k + 1, [], rfl, by simp; omega, by omega, hO, fun x h => (by cases h), hR1, hF⟩
  case round =>
    clear hF hR1 hO
    obtain ⟨m, k', L, rfl, hL, hk', hO, hS, hR, hF⟩ := hrel
    have hsz := hF.kp.size
    by_cases hm : 0 < m
    · have hm' : 0 < (m : Int) := by omega
      have hmp : ((m : Int) - 1) = ((m - 1 : Nat) : Int) := by omega
      have HM := Lib.hid hmp; clear hmp
      go_wp2_with (first | (go_at_call 32; go_must (refine (pick_any r _ _ _ hR (by omega) (by omega) (by omega)).mono ?_); rintro e wx ⟨vx, rfl, ux, lx, hRx, hKx⟩; replace hF := hF.call hKx; replace hR := hRx; (try replace hO := own_kp hO hKx hr); clear hRx hKx) | (go_at_call 59; go_must (refine (l91Range_any r _ _ hR (by omega)).mono ?_); rintro e wx ⟨fx, bx, rfl, flx, fhx, blx, bhx, ⟨kx, hkx, hRx⟩, hKx⟩; replace hF := hF.call hKx; replace hR := hRx; (try replace hO := own_kp hO hKx hr); clear hRx hKx) | (at_builtin; refine wpList_append_own _ rfl _ _ 42 rfl w.heap.size 41 i0 (.agg #[.int .i64 0, .int .i64 0, .int .i64 0]) 3 24 Tryd.underlying42 hi hz0 hz1 hz2 rfl (by decide) _ _ _ rfl (hO.alloc _) ⟨_, 0, none⟩ 1 1 (HoldD.enc ⟨_, _, _⟩) rfl rfl (cells_new _ _ _) (by simp [HoldD.enc, Value.oneCell']) (le_maxLen (by omega)) (by omega) (by have := hF.kp.size; simp only [World.size_alloc]; omega) ?_; intro v' wa hO1 hg1 hz9; clear hz9; have hb1 := own_grown (hO.alloc _) hg1 (by have := hF.kp.size; simp only [World.size_alloc]; omega); replace hO := hO1; clear hO1 hg1))
      replace hF := (hF.other (.cells #[.int .i64 (1 + vx), .int .i64 fx, .int .i64 bx] 41)).belowB hb1 (Nat.le_refl _) (by simp)
      replace hR := (hR.alloc (.cells #[.int .i64 (1 + vx), .int .i64 fx, .int .i64 bx] 41)).below hb1 hr
      have hS' : Hid (∀ x ∈ L ++ [⟨1 + vx, fx, bx⟩], x.sm) := by
        intro x hx
        rcases List.mem_append.1 hx with h | h
        · exact hS.out x h
        · rw [List.mem_singleton.1 h]; exact ⟨by dsimp only; omega, by dsimp only; omega, by dsimp only; omega, by dsimp only; omega, by dsimp only; omega, by dsimp only; omega⟩
      go_roundw
      case rel => exact ⟨m - 1, kx, L ++ [⟨1 + vx, fx, bx⟩], by rw [← HM.out], by simp; omega, by omega, by have := hO; rw [flat_snoc] at this; simpa using this, hS', hR, hF⟩
      case measure => simp [intOf]; omega
    · obtain rfl : m = 0 := by omega
      go_wp2
      go_ret
      exact ⟨_, L, rfl, hO, by omega, hS.out, ⟨k', by omega, hR⟩, hF.kp⟩
theorem l92Holds_any (r k : Nat) (w : World) (hR : Rd w r k) (hk : k ≤ 700000) :
    Calls Tryd.prog 55 #[.pointer (some ⟨r, 0, none⟩)] w fun e w' => ∃ (v : Value) (L : List HoldD), e = .returned v ∧ Rows w' v 3 HoldD.enc L ∧ Fresh w.heap.size v ∧ L.length ≤ 4 ∧ (∀ x ∈ L, x.sm) ∧ (∃ k', k' ≤ k + 100 ∧ Rd w' r k') ∧ Kp r w w' :=
  (l92HoldsO_any r k w hR hk).mono fun _ _ ⟨v, L, e, hO, h4, hS, hR, hK⟩ => ⟨v, L, e, hO.rows (fun _ => rfl), hO.ge, h4, hS, hR, hK⟩
end Go.Proofs.YtiocomefkckbfaaDoor
