/- FnSplit: the walk. -/
import Derived.Test.YtbhenfegklgkoaaUe
set_option linter.unusedSimpArgs false
set_option linter.unusedVariables false
namespace Go.Proofs.Ytbhenfegklgkoaa
open Go.RowKit

theorem Tb.drew {w : World} {v : Value} {T : List Ent} (h : Tb w v T) : Tb w.drew v T := h.below (Below.refl _ _).drew
set_option maxHeartbeats 8000000 in
set_option maxRecDepth 100000 in
theorem FnSplit_walk (a0 a1 : Option Addr) (n0 c0 n1 c1 : Nat) (w : World) (h0 : Given w (.slice a0 n0 c0)) (_h1 : Given w (.slice a1 n1 c1)) :
    Calls Try.prog 14 #[.slice a0 n0 c0, .slice a1 n1 c1] w fun e w' => e = .returned (.bool true) ∧ Below w.heap.size w w' := by
  by_cases hn0 : 1048576 < n0
  · have e0 : decide (1048576 < (n0 : Int)) = true := by simp; omega
    go_enter Try.func14, Try.ntmps14
    go_wp2
    go_ret
    exact ⟨rfl, Below.refl _ _⟩
  have e0 : decide (1048576 < (n0 : Int)) = false := by simp; omega
  by_cases hn1 : 1048576 < n1
  · have e1 : decide (1048576 < (n1 : Int)) = true := by simp; omega
    go_enter Try.func14, Try.ntmps14
    go_wp2
    go_ret
    exact ⟨rfl, Below.refl _ _⟩
  have e1 : decide (1048576 < (n1 : Int)) = false := by simp; omega
  have hF := Fb.start w
  clear _h1
  go_enter Try.func14, Try.ntmps14
  go_wp2_with fail
  refine (drawTableLess_any _ _ h0).mono ?_; rintro e w1 ⟨v, T, rfl, hV, hne, hb1⟩
  replace hF := hF.below hb1
  have HN := Lib.hid hne
  clear hb1 h0
  rcases hV.cases with ⟨rfl, rfl⟩ | ⟨b0, off, n, cap, rfl, hn, hnc, hcc⟩
  · exact (hne rfl).elim
  clear hne
  obtain ⟨X, hX⟩ : ∃ X, Hid (lessT T = X) := ⟨_, rfl⟩
  go_wp2_with fail
  have c1 := iTableLess_any _ T _ hV
  rw [hX.out] at c1
  refine c1.mono ?_; rintro e w2 ⟨vx1, rfl, hO1, hb2⟩
  clear c1
  replace hF := hF.below hb2
  replace hV := hV.below hb2
  clear hb2
  have hU1 := hO1.tb
  have CL : Hid (∀ w (h : Tb w (.slice (some ⟨b0, off, none⟩) n cap) T), Calls Try.prog 33 #[.slice (some ⟨b0, off, none⟩) n cap] w fun e w' => ∃ u, e = .returned u ∧ Own 29 w' w.heap.size u 3 encE X ∧ Below w.heap.size w w') := by
    intro w h
    have := sTableLess_any _ T w h HN.out
    rwa [hX.out] at this
  clear hO1
  go_wp2_with (first | (go_at_call 33; go_must (refine (CL.out _ hV).mono ?_); rintro e wx ⟨vx2, rfl, hOx, hbx⟩; replace hF := hF.below hbx; (try replace hV := hV.below hbx); (try replace hU1 := hU1.below hbx); have hU2 := hOx.tb; clear hbx hOx) | (go_at_call 30; go_must (refine (lyTable_same _ _ X _ hU1.1 hU2.1).mono ?_); rintro e wx ⟨rfl, hbx⟩; replace hF := hF.below hbx; (try replace hV := hV.below hbx); (try replace hU1 := hU1.below hbx); (try replace hU2 := hU2.below hbx); clear hbx))
  clear hU2
  by_cases hT : TOk T
  · have d1 : decide (TOk T) = true := by simp [hT]
    have HT := Lib.hid hT
    clear hT
    by_cases hz : n = 0
    · have dz : ((n : Int) == 0) = true := by simp [hz]
      clear hz
      go_wp2_with (first | (go_at_call 17; go_must (refine (sTableOk_any _ T _ hV.1).mono ?_); rintro e wx ⟨rfl, hbx⟩; replace hF := hF.below hbx; (try replace hV := hV.below hbx); (try replace hU1 := hU1.below hbx); (try replace hU2 := hU2.below hbx); clear hbx) | (go_at_call 33; go_must (refine (CL.out _ hV).mono ?_); rintro e wx ⟨vx2, rfl, hOx, hbx⟩; replace hF := hF.below hbx; (try replace hV := hV.below hbx); (try replace hU1 := hU1.below hbx); have hU2 := hOx.tb; clear hbx hOx) | (go_at_call 30; go_must (refine (lyTable_same _ _ X _ hU1.1 hU2.1).mono ?_); rintro e wx ⟨rfl, hbx⟩; replace hF := hF.below hbx; (try replace hV := hV.below hbx); (try replace hU1 := hU1.below hbx); (try replace hU2 := hU2.below hbx); clear hbx))
      go_ret
      exact ⟨rfl, hF.kp⟩
    · have dz : ((n : Int) == 0) = false := by simp [hz]
      have hnz : (n : Int) ≠ 0 := by omega
      obtain ⟨q, hq⟩ : ∃ q : Nat, (n1 : Int) % (n : Int) = (q : Int) := ⟨n1 % n, by simp⟩
      have hqn : q < n := by
        have := Int.emod_lt_of_pos (n1 : Int) (show 0 < (n : Int) by omega)
        omega
      obtain ⟨x, hx⟩ := get_of hn.out hqn
      have hn12 : n ≤ 12 := by have := HT.out.2; have := hn.out; omega
      clear hz hU1
      refine (sTableOk_any _ T _ hV.1).mono ?_; rintro e wa ⟨rfl, hbx⟩
      replace hF := hF.below hbx
      replace hV := hV.below hbx
      clear hbx
      have HF := Lib.hid hF
      have HV := Lib.hid hV
      have x0 := Lib.hid (hV.1.get hx (j := 0) rfl)
      have x1 := Lib.hid (hV.1.get hx (j := 1) rfl)
      have x2 := Lib.hid (hV.1.get hx (j := 2) rfl)
      have HX := Lib.hid hx
      have HE := Lib.hid (tok_ep HT.out (List.mem_of_getElem? hx))
      have hM := Lib.hid (List.mem_of_getElem? hx)
      clear hV hF hx
      obtain ⟨xf, xb, xv⟩ := x
      dsimp only [Nat.add_zero] at x0 x1 x2 HE hM
      have hF := Fb.start wa
      have y0 := x0.out
      have y1 := x1.out
      go_wp2_with fail
      refine (iRangeHalf_ex xf xb false _).mono ?_; rintro e w4 ⟨fa, ba, HA, rfl, hb4⟩
      replace hF := hF.below hb4
      clear hb4 y0 y1
      have y0 := (hF.alloc [.int .i64 fa, .int .i64 ba] 27).old x0.out
      have y1 := (hF.alloc [.int .i64 fa, .int .i64 ba] 27).old x1.out
      go_wp2_with fail
      replace hF := hF.alloc [.int .i64 fa, .int .i64 ba] 27
      generalize hbe1 : w4.heap.size = be1 at *
      refine (iRangeHalf_ex xf xb true _).mono ?_; rintro e w5 ⟨fb, bb, HB, rfl, hb5⟩
      replace hF := hF.below hb5
      clear hb5 y0 y1
      by_cases hH : Hlf xf xb
      · have dH : decide (Hlf xf xb) = true := by simp [hH]
        have HH := Lib.hid hH
        clear hH
        go_wp2
        replace hF := hF.alloc [.int .i64 fb, .int .i64 bb] 27
        generalize hbe2 : w5.heap.size = be2 at *
        obtain ⟨wb, hwb⟩ : ∃ wb : World, wb = w5.alloc (.cells #[.int .i64 fb, .int .i64 bb] 27) := ⟨_, rfl⟩
        rw [← hwb] at hF ⊢
        clear hwb hbe1 hbe2
        go_loopw [12] (fun s12 wr => ∃ k : Nat, k ≤ n ∧ s12 = .int .i64 k ∧ Hid (∀ j y, j < k → T[j]? = some y → ¬ (y.1 = fa ∧ y.2.1 = ba) ∧ ¬ (y.1 = fb ∧ y.2.1 = bb)) ∧ Fb wa wr [(be2, [.int .i64 fb, .int .i64 bb]), (be1, [.int .i64 fa, .int .i64 ba])]) (fun s12 _ => n - (intOf s12).toNat)
        case atStart => exact ⟨0, Nat.zero_le _, rfl, fun j y h => by omega, hF⟩
        case round =>
          clear hF
          obtain ⟨k, hk, rfl, hno, hF⟩ := hrel
          by_cases hkn : k < n
          · obtain ⟨y, hy⟩ := get_of hn.out hkn
            have HY := Lib.hid hy
            have p0 := HV.out.1.get hy (j := 0) rfl
            have p1 := HV.out.1.get hy (j := 1) rfl
            clear hy
            obtain ⟨yf, yb, yv⟩ := y
            dsimp only [Nat.add_zero] at p0 p1
            have d3 := fun z : Cl wr.heap.size wr => Cl.old hF z p0
            have d4 := fun z : Cl wr.heap.size wr => Cl.old hF z p1
            clear p0 p1
            have oc := fun x : Cl _ wr => (Fb.cl hF x).own; simp only [World.size_alloc, World.size_drew, World.size_setCell, List.mem_cons, List.not_mem_nil, or_false, forall_eq_or_imp, forall_eq, At, and_true, Nat.zero_add, Nat.reduceAdd, List.set_cons_zero, List.set_cons_succ] at oc
            obtain ⟨Q1, hQ1⟩ : ∃ Q : Bool, (yf == fa && yb == ba) = Q := ⟨_, rfl⟩
            obtain ⟨Q2, hQ2⟩ : ∃ Q : Bool, (yf == fb && yb == bb) = Q := ⟨_, rfl⟩
            have heq1 : ∀ w, (binOp .eql 27 (.agg #[.int .i64 yf, .int .i64 yb]) (.agg #[.int .i64 fa, .int .i64 ba])).run Try.prog w = .ok (.bool Q1) w := fun w => by rw [rng_eql, hQ1]
            have heq2 : ∀ w, (binOp .eql 27 (.agg #[.int .i64 yf, .int .i64 yb]) (.agg #[.int .i64 fb, .int .i64 bb])).run Try.prog w = .ok (.bool Q2) w := fun w => by rw [rng_eql, hQ2]
            cases Q1
            · cases Q2
              · have hno2 : Hid (∀ j y, j < k + 1 → T[j]? = some y → ¬ (y.1 = fa ∧ y.2.1 = ba) ∧ ¬ (y.1 = fb ∧ y.2.1 = bb)) := by
                  show ∀ j y, _
                  intro j y hj hy
                  by_cases e : j = k
                  · subst e
                    rw [HY.out] at hy; injection hy with hy; subst hy
                    simpa using And.intro hQ1 hQ2
                  · exact hno.out j y (by omega) hy
                clear hQ1 hQ2
                go_wp2
                first | refine wp_region_new (by kernel_rfl) (by kernel_rfl) ?_ | refine wp_region_lex ?_
                repeat (any_goals (first | go_big_quiet_step ((fail)) | (refine wpQuiet_step (fun K hK => ?_); go_simp; split <;> (rename_i hg; refine hK _ ?_; clear hK K; simp only [hg, decide_true, decide_false]))))
                all_goals (refine wpQuiet_nil ?_; intro x)
                go_wp2
                go_roundw
                case rel => exact ⟨k + 1, by omega, by go_num, hno2, hF.cl x⟩
                case measure => simp [intOf]; omega
              · clear hQ1 hQ2
                go_wp2
                first | refine wp_region_new (by kernel_rfl) (by kernel_rfl) ?_ | refine wp_region_lex ?_
                repeat (any_goals (first | go_big_quiet_step ((fail)) | (refine wpQuiet_step (fun K hK => ?_); go_simp; split <;> (rename_i hg; refine hK _ ?_; clear hK K; simp only [hg, decide_true, decide_false]))))
                all_goals (refine wpQuiet_nil ?_; intro x)
                go_wp2
                go_ret
                exact ⟨rfl, (HF.out.below (hF.cl x).kp).kp⟩
            · clear hQ1 hQ2
              go_wp2
              first | refine wp_region_new (by kernel_rfl) (by kernel_rfl) ?_ | refine wp_region_lex ?_
              repeat (any_goals (first | go_big_quiet_step ((fail)) | (refine wpQuiet_step (fun K hK => ?_); go_simp; split <;> (rename_i hg; refine hK _ ?_; clear hK K; simp only [hg, decide_true, decide_false]))))
              all_goals (refine wpQuiet_nil ?_; intro x)
              go_wp2
              go_ret
              exact ⟨rfl, (HF.out.below (hF.cl x).kp).kp⟩
          · have hall : Hid (∀ y ∈ T, ¬ (y.1 = fa ∧ y.2.1 = ba) ∧ ¬ (y.1 = fb ∧ y.2.1 = bb)) := by
              show ∀ y ∈ T, _
              intro y hy
              obtain ⟨j, hj, e⟩ := List.getElem_of_mem hy
              exact hno.out j y (by have := hn.out; omega) (by rw [List.getElem?_eq_getElem hj, e])
            clear hno hk
            have y0 := hF.old x0.out
            have y1 := hF.old x1.out
            go_wp2_with fail
            have c1 := iTableDrop_any _ T xf xb _ (HV.out.below hF.kp)
            rw [tdrp_yes HT.out HE.out.1] at c1
            obtain ⟨D, hD⟩ : ∃ D, Hid (drp T (xf, xb) = D) := ⟨_, rfl⟩
            obtain ⟨r2, hr2⟩ : ∃ r2, decide ((drp T (xf, xb)).length < T.length) = r2 := ⟨_, rfl⟩
            dsimp only at c1
            rw [hr2, hD.out] at c1
            refine c1.mono ?_; rintro e w7 ⟨vx4, rfl, hO4, hb7⟩
            clear c1 hr2
            replace hF := hF.below hb7
            have hU4 := hO4.tb
            clear hb7 hO4 y0 y1
            have y2 := hF.old x2.out
            have o := hF.own; simp only [World.size_alloc, World.size_drew, World.size_setCell, List.mem_cons, List.not_mem_nil, or_false, forall_eq_or_imp, forall_eq, At, and_true, Nat.zero_add, Nat.reduceAdd, List.set_cons_zero, List.set_cons_succ] at o
            obtain ⟨Y, r3, hY⟩ : ∃ Y r3, tput D (fa, ba, xv) = (Y, r3) := ⟨_, _, rfl⟩
            have HY := Lib.hid hY
            have C1 : Hid (∀ w, Tb w vx4 D → Calls Try.prog 29 #[vx4, .agg #[.int .i64 fa, .int .i64 ba, .int .i64 xv]] w fun e w' => ∃ u, e = .returned (.tuple #[u, .bool r3]) ∧ Own 29 w' w.heap.size u 3 encE Y ∧ Below w.heap.size w w') := by
              show ∀ w, _
              intro w h; have := iTablePut_any vx4 D fa ba xv w h; rwa [hY] at this
            clear hY
            go_wp2
            go_region_with (go_at_call 29; go_must (refine (C1.out _ hU4.drew).mono ?_); rintro e wx ⟨vx5, rfl, hOx, hbx⟩)
            all_goals
              replace hF := hF.drew.below hbx
              have hU5 := hOx.tb
              clear hbx hOx y2 o hU4
              have y2 := hF.old x2.out
              have o := hF.own; simp only [World.size_alloc, World.size_drew, World.size_setCell, List.mem_cons, List.not_mem_nil, or_false, forall_eq_or_imp, forall_eq, At, and_true, Nat.zero_add, Nat.reduceAdd, List.set_cons_zero, List.set_cons_succ] at o
              obtain ⟨Z, r4, hZ⟩ : ∃ Z r4, tput Y (fb, bb, xv) = (Z, r4) := ⟨_, _, rfl⟩
              have HZ := Lib.hid hZ
              have C2 : Hid (∀ w, Tb w vx5 Y → Calls Try.prog 29 #[vx5, .agg #[.int .i64 fb, .int .i64 bb, .int .i64 xv]] w fun e w' => ∃ u, e = .returned (.tuple #[u, .bool r4]) ∧ Own 29 w' w.heap.size u 3 encE Z ∧ Below w.heap.size w w') := by
                show ∀ w, _
                intro w h; have := iTablePut_any vx5 Y fb bb xv w h; rwa [hZ] at this
              clear hZ
              go_wp2
              go_region_with (go_at_call 29; go_must (refine (C2.out _ hU5.drew).mono ?_); rintro e wx ⟨vx5, rfl, hOx, hbx⟩)
              all_goals
                replace hF := hF.drew.below hbx
                have hU6 := hOx.tb
                have hV := HV.out.below hF.kp
                clear hbx hOx y2 o hU5
                cases r3
                · go_wp2
                  go_ret
                  exact ⟨rfl, (HF.out.below hF.kp).kp⟩
                · cases r4
                  · go_wp2
                    go_ret
                    exact ⟨rfl, (HF.out.below hF.kp).kp⟩
                  · have hfin : Hid (TSame Z T) := by
                      obtain ⟨e1, e2⟩ := HA.out
                      obtain ⟨e3, e4⟩ := HB.out
                      have k3 := tput_ok (T := D) (e := (fa, ba, xv)) (by rw [HY.out])
                      have k4 := tput_ok (T := Y) (e := (fb, bb, xv)) (by rw [HZ.out])
                      have y3 : Y = ins (fa, ba, xv) D := by have := k3.2.2.2.1; rw [HY.out] at this; injection this
                      have z4 : Z = ins (fb, bb, xv) Y := by have := k4.2.2.2.1; rw [HZ.out] at this; injection this
                      have l3 := k3.2.2.1
                      have l4 := k4.2.2.1
                      have ha := hall.out
                      rw [y3, ← hD.out] at l4
                      rw [← hD.out] at l3
                      subst e1 e2 e3 e4
                      have hh := split_same HT.out hM.out HH.out (ep_half false HH.out HE.out.2) (ep_half true HH.out HE.out.2) ha l3 l4
                      show TSame Z T
                      rw [z4, y3, ← hD.out]
                      exact hh
                    have hsm : decide (TSame Z T) = true := decide_eq_true hfin.out
                    go_wp2_with ((go_at_call 25; go_must (refine (iTableSame_any _ _ Z T _ hU6.1 hV.1).mono ?_); rintro e wx ⟨rfl, hbx⟩; replace hF := hF.below hbx; (try replace hV := hV.below hbx); (try replace hU1 := hU1.below hbx); (try replace hU2 := hU2.below hbx); clear hbx))
                    go_ret
                    exact ⟨rfl, (HF.out.below hF.kp).kp⟩
      · have dH : decide (Hlf xf xb) = false := by simp [hH]
        clear hH
        go_wp2
        replace hF := hF.alloc [.int .i64 fb, .int .i64 bb] 27
        go_ret
        exact ⟨rfl, (HF.out.below hF.kp).kp⟩
  · have d1 : decide (TOk T) = false := by simp [hT]
    clear hT
    go_wp2_with (first | (go_at_call 17; go_must (refine (sTableOk_any _ T _ hV.1).mono ?_); rintro e wx ⟨rfl, hbx⟩; replace hF := hF.below hbx; (try replace hV := hV.below hbx); (try replace hU1 := hU1.below hbx); (try replace hU2 := hU2.below hbx); clear hbx) | (go_at_call 33; go_must (refine (CL.out _ hV).mono ?_); rintro e wx ⟨vx2, rfl, hOx, hbx⟩; replace hF := hF.below hbx; (try replace hV := hV.below hbx); (try replace hU1 := hU1.below hbx); have hU2 := hOx.tb; clear hbx hOx) | (go_at_call 30; go_must (refine (lyTable_same _ _ X _ hU1.1 hU2.1).mono ?_); rintro e wx ⟨rfl, hbx⟩; replace hF := hF.below hbx; (try replace hV := hV.below hbx); (try replace hU1 := hU1.below hbx); (try replace hU2 := hU2.below hbx); clear hbx))
    go_ret
    exact ⟨rfl, hF.kp⟩
end Go.Proofs.Ytbhenfegklgkoaa
