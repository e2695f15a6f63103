/- Tables: the program's TableOk; putting an entry; the same tables. -/
import Derived.Test.YtkkhbnhddhbgeaaTa
set_option linter.unusedSimpArgs false
set_option linter.unusedVariables false
namespace Go.Proofs.Ytkkhbnhddhbgeaa
open Go.RowKit

theorem infoEnt : (Try.prog.info? 40).map (fun i => (i.zero, i.size, i.bytes)) = some (some (.agg #[.int .i64 0, .int .i64 0, .int .i64 0]), 3, 24) := by kernel_rfl
theorem RC_ok {f b g c : Int} (h1 : ROk f b) (h2 : ROk g c) : RC f b g c = rcmp f b g c := by unfold RC; rw [if_pos ⟨h1, h2⟩]
set_option maxHeartbeats 2000000 in
theorem iTableOk_any (v : Value) (T : List Ent) (w : World) (hv : Ents w v T) :
    Calls Try.prog 20 #[v] w fun e w' => e = .returned (.bool (decide (TOk T))) ∧ Below w.heap.size w w' := by
  have hF := Fb.start w
  obtain ⟨n, cap, hn, hnc, hcap, hv'⟩ := hv.cases
  by_cases hn12 : 12 < n
  · have d0 : decide ((12 : Int) < (n : Int)) = true := by simp; omega
    have d0' : decide (12 < n) = true := by simp; omega
    have hd : Hid (decide (TOk T) = false) := decide_eq_false (fun g => by have := g.2; rw [hn.out] at this; omega)
    obtain ⟨ao, rfl⟩ : ∃ ao, v = .slice ao n cap := by
      rcases hv' with ⟨_, ao, rfl⟩ | ⟨_, b0, off, rfl, _⟩
      · exact ⟨_, rfl⟩
      · exact ⟨_, rfl⟩
    clear hv hv'
    go_enter Try.func20, Try.ntmps20
    go_wp2
    go_ret
    exact ⟨by rw [hd.out]; rfl, hF.kp⟩
  have d0 : decide ((12 : Int) < (n : Int)) = false := by simp; omega
  have d0' : decide (12 < n) = false := by simp; omega
  rcases hv' with ⟨hn0, ao, rfl⟩ | ⟨hn0, b0, off, rfl, hc⟩
  all_goals
    clear hv
    go_enter Try.func20, Try.ntmps20
    go_wp2
    clear d0 d0'
    go_loopw [10] (fun i wr => ∃ k : Nat, k ≤ n ∧ i = .int .i64 k ∧ Hid (∀ j, j < k → StepOk T j) ∧ Fb w wr []) (fun i _ => n - (intOf i).toNat)
    case atStart => exact ⟨0, Nat.zero_le _, rfl, (fun j h => by omega), hF⟩
    case round =>
      clear hF
      obtain ⟨k, hk, rfl, hall, hF⟩ := hrel
      by_cases hlt : k < n
      · try (exfalso; omega)
        all_goals
          obtain ⟨x, hx⟩ := get_of hn.out hlt
          have HX := Lib.hid hx
          obtain ⟨c0, c1, c2⟩ := ents3 hc.out hx
          have hno := Lib.hid (fun h => tok_no (T := T) hn.out hlt h)
          clear hx
          obtain ⟨xf, xb, xv⟩ := x
          dsimp only at c0 c1 c2
          replace c0 := hF.old c0
          replace c1 := hF.old c1
          replace c2 := hF.old c2
          have hFo := Lib.hid hF
          replace hF := hF.alloc [.int .i64 xf, .int .i64 xb, .int .i64 xv] 40
          have oc := fun x : Cl _ (wr.alloc (.cells #[.int .i64 xf, .int .i64 xb, .int .i64 xv] 40)) => (Fb.cl hF x).own; simp only [World.size_alloc, World.size_drew, World.size_setCell, List.mem_cons, List.not_mem_nil, or_false, forall_eq_or_imp, forall_eq, At, and_true, Nat.zero_add, Nat.reduceAdd, List.set_cons_zero, List.set_cons_succ] at oc
          have hkp : Hid (∀ z : Cl (wr.alloc (.cells #[.int .i64 xf, .int .i64 xb, .int .i64 xv] 40)).heap.size (wr.alloc (.cells #[.int .i64 xf, .int .i64 xb, .int .i64 xv] 40)), Fb w z.W []) := fun z => ((hFo.out.other _).cl z)
          by_cases hE : EP3 xf xb xv
          · have dE : decide (EP3 xf xb xv) = true := by simp [hE]
            by_cases hk0 : k = 0
            · have d0 : decide ((0 : Int) < (k : Int)) = false := by simp; omega
              have d0' : decide (0 < k) = false := by simp; omega
              have hst : Hid (StepOk T k) := by subst hk0; exact (stepOk_0 HX.out).2 hE
              have hall2 : Hid (∀ j, j < k + 1 → StepOk T j) := fun j hj => by
                by_cases e : j = k
                · rw [e]; exact hst.out
                · exact hall.out j (by omega)
              clear hE hk0
              go_wp2
              first | refine wp_region_new (by kernel_rfl) (by kernel_rfl) ?_ | refine wp_region_lex ?_
              repeat (any_goals (first | go_big_quiet_step ((first | (go_at_call 52; exact Calls.cl (entryOk_any _ _ _ _)) | (go_at_call 53; exact Calls.cl (iRangeCmp_any _ _ _ _ _)))) | (refine wpQuiet_step (fun K hK => ?_); go_simp; split <;> (rename_i hg; refine hK _ ?_; clear hK K; simp only [hg, decide_true, decide_false]))))
              all_goals (refine wpQuiet_nil ?_; intro x)
              go_wp2
              go_roundw
              case rel => exact ⟨k + 1, by omega, by go_num, hall2, hkp.out x⟩
              case measure => simp [intOf]; omega
            · obtain ⟨k', hk1, hk2⟩ : ∃ k', k' + 1 ≤ k ∧ k ≤ k' + 1 := ⟨k - 1, by omega, by omega⟩
              have hsub : (k : Int) - 1 = (k' : Int) := by omega
              have d0 : decide ((0 : Int) < (k : Int)) = true := by simp; omega
              have d0' : decide (0 < k) = true := by simp; omega
              have hk'n : k' < n := by omega
              obtain ⟨y, hy⟩ := get_of hn.out hk'n
              have hst := Lib.hid (stepOk_s hk1 hk2 hy HX.out)
              obtain ⟨p0, p1, p2⟩ := ents3 hc.out hy
              have hEy : EP y := by have := (hall.out k' (by omega)).1; rwa [getD_of hy] at this
              obtain ⟨yf, yb, yv⟩ := y
              dsimp only at p0 p1 p2
              have hRC : RC yf yb xf xb = rcmp yf yb xf xb := RC_ok hEy.1 hE.1
              have pp0 := fun z => Cl.old hF z p0
              have pp1 := fun z => Cl.old hF z p1
              clear p0 p1 p2 hy hEy
              by_cases hC : 0 ≤ rcmp yf yb xf xb
              · have dC : decide (0 ≤ rcmp yf yb xf xb) = true := by simp [hC]
                have hd := Lib.hid (hno.out (fun g => by have := (hst.out.1 g).2; unfold ecmp at this; dsimp only at this; omega))
                clear hE hC hk0
                go_wp2
                first | refine wp_region_new (by kernel_rfl) (by kernel_rfl) ?_ | refine wp_region_lex ?_
                repeat (any_goals (first | go_big_quiet_step ((first | (go_at_call 52; exact Calls.cl (entryOk_any _ _ _ _)) | (go_at_call 53; exact Calls.cl (iRangeCmp_any _ _ _ _ _)))) | (refine wpQuiet_step (fun K hK => ?_); go_simp; split <;> (rename_i hg; refine hK _ ?_; clear hK K; simp only [hg, decide_true, decide_false]))))
                all_goals (refine wpQuiet_nil ?_; intro x)
                go_wp2
                go_ret
                exact ⟨by rw [hd.out]; rfl, (hkp.out x).kp⟩
              · have dC : decide (0 ≤ rcmp yf yb xf xb) = false := by simp; omega
                have hall2 : Hid (∀ j, j < k + 1 → StepOk T j) := fun j hj => by
                  by_cases e : j = k
                  · rw [e]; exact hst.out.2 ⟨hE, by unfold ecmp; dsimp only; omega⟩
                  · exact hall.out j (by omega)
                clear hE hC hk0
                go_wp2
                first | refine wp_region_new (by kernel_rfl) (by kernel_rfl) ?_ | refine wp_region_lex ?_
                repeat (any_goals (first | go_big_quiet_step ((first | (go_at_call 52; exact Calls.cl (entryOk_any _ _ _ _)) | (go_at_call 53; exact Calls.cl (iRangeCmp_any _ _ _ _ _)))) | (refine wpQuiet_step (fun K hK => ?_); go_simp; split <;> (rename_i hg; refine hK _ ?_; clear hK K; simp only [hg, decide_true, decide_false]))))
                all_goals (refine wpQuiet_nil ?_; intro x)
                go_wp2
                go_roundw
                case rel => exact ⟨k + 1, by omega, by go_num, hall2, hkp.out x⟩
                case measure => simp [intOf]; omega
          · have dE : decide (EP3 xf xb xv) = false := by simp [hE]
            have hd := Lib.hid (hno.out (fun g => hE (by have := g.1; rw [getD_of HX.out] at this; exact this)))
            clear hE
            go_wp2
            first | refine wp_region_new (by kernel_rfl) (by kernel_rfl) ?_ | refine wp_region_lex ?_
            repeat (any_goals (first | go_big_quiet_step ((first | (go_at_call 52; exact Calls.cl (entryOk_any _ _ _ _)) | (go_at_call 53; exact Calls.cl (iRangeCmp_any _ _ _ _ _)))) | (refine wpQuiet_step (fun K hK => ?_); go_simp; split <;> (rename_i hg; refine hK _ ?_; clear hK K; simp only [hg, decide_true, decide_false]))))
            all_goals (refine wpQuiet_nil ?_; intro x)
            go_wp2
            go_ret
            exact ⟨by rw [hd.out]; rfl, (hkp.out x).kp⟩
      · have hd : Hid (decide (TOk T) = true) := by
          show _ = _; rw [tok_all hn.out (fun j hj => hall.out j (by omega))]; simp; omega
        go_wp2
        go_ret
        exact ⟨by rw [hd.out]; try rfl, hF.kp⟩
end Go.Proofs.Ytkkhbnhddhbgeaa
