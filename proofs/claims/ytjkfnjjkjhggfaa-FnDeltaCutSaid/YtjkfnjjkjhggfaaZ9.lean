/- Marks; is a route ok. Is a route ok. A drawn region whose head only reads, draws and calls what keeps old memory, and whose last operations stand in one order (they make memory): one walk of the head, then the tail. -/
import Derived.Test.YtjkfnjjkjhggfaaZ7
import Derived.Test.YtjkfnjjkjhggfaaZ8
import Derived.Test.YtjkfnjjkjhggfaaZ1
import Derived.StillTail
set_option linter.unusedSimpArgs false
set_option linter.unusedVariables false
namespace Go.Proofs.Ytjkfnjjkjhggfaa
open Go.RowKit

theorem getI_of {M : List Int} {k : Nat} {x : Int} (h : M[k]? = some x) : M.getD k 0 = x := by simp [List.getD, h]
def StepM (M : List Int) (i : Nat) : Prop := Bts (M.getD i 0) 1 9 ∧ (0 < i → M.getD (i - 1) 0 < M.getD i 0)
instance (M : List Int) (i : Nat) : Decidable (StepM M i) := by unfold StepM; infer_instance
/-- Marks stand ascending. -/
def MOk (M : List Int) : Prop := ∀ i, i < M.length → StepM M i
instance (M : List Int) : Decidable (MOk M) := by unfold MOk; infer_instance
theorem mok_no {M : List Int} {n k : Nat} (hn : M.length = n) (hk : k < n) (h : ¬ StepM M k) : decide (MOk M) = false := decide_eq_false fun g => h (g k (by omega))
theorem mok_yes {M : List Int} {n : Nat} (hn : M.length = n) (h : ∀ j, j < n → StepM M j) : decide (MOk M) = true := decide_eq_true fun i hi => h i (by omega)
theorem step_0 {M : List Int} {x : Int} (h : M[0]? = some x) : StepM M 0 ↔ Bts x 1 9 := by
  unfold StepM; rw [getI_of h]; simp
theorem step_s {M : List Int} {k k' : Nat} {x y : Int} (hk : k' + 1 ≤ k) (hk' : k ≤ k' + 1) (hy : M[k']? = some y) (hx : M[k]? = some x) : StepM M k ↔ Bts x 1 9 ∧ y < x := by
  obtain rfl : k = k' + 1 := by omega
  unfold StepM
  rw [getI_of hx, show k' + 1 - 1 = k' by omega, getI_of hy]
  simp
theorem stepM_go {M : List Int} {k : Nat} {n : Nat} (h : ∀ j, j < k → StepM M j) (hs : StepM M k) : ∀ j, j < k + 1 → StepM M j := fun j hj => by
  by_cases e : j = k
  · subst e; exact hs
  · exact h j (by omega)
theorem sMarks_any (v : Value) (M : List Int) (w : World) (hv : Ints w v M) :
    Calls Try.prog 60 #[v] w fun e w' => e = .returned (.bool (decide (MOk M))) ∧ Below w.heap.size w w' := by
  have hF := Fb.start w
  obtain ⟨n, cap, hn, hnc, hcap, ⟨hn0, ao, rfl⟩ | ⟨hn0, b0, off, rfl, hc⟩⟩ := hv.cases
  all_goals
    clear hv
    go_enter Try.func60, Try.ntmps60
    go_wp2
    go_loopw [3] (fun s3 wr => ∃ k : Nat, k ≤ n ∧ s3 = .int .i64 k ∧ Hid (∀ j, j < k → StepM M j) ∧ Fb w wr []) (fun s3 _ => n - (intOf s3).toNat)
    case atStart => exact ⟨0, Nat.zero_le _, rfl, (fun j hj => by omega), hF⟩
    case round =>
      clear hF
      obtain ⟨k, hk, rfl, hall, hF⟩ := hrel
      by_cases hlt : k < n
      · try (exfalso; omega)
        all_goals
          obtain ⟨x0, hx⟩ := get_of hn.out hlt
          have HX := Lib.hid hx
          have G0 := Lib.hid (hc.out k x0 hx)
          clear hx
          by_cases h0 : k = 0
          · subst h0
            have G0 := Lib.hid (show w.cell? ⟨b0, off, none⟩ = some (.int .i64 x0) from by have := G0.out; simpa using this)
            have hst := Lib.hid (step_0 HX.out)
            by_cases d1 : Bts x0 1 9
            · have e1 : decide (Bts x0 1 9) = true := by simp [d1]
              have hall2 : Hid (∀ j, j < 0 + 1 → StepM M j) := stepM_go (n := n) hall.out (hst.out.2 d1)
              clear d1
              have c0 := fun z : Cl wr.heap.size wr => Cl.old hF z G0.out
              (try (have c1 := fun z : Cl wr.heap.size wr => Cl.old hF z G1.out))
              go_wp2
              first | refine wp_region_new (by kernel_rfl) (by kernel_rfl) ?_ | refine wp_region_lex ?_
              repeat (any_goals (first | go_big_quiet_step (((go_at_call 22; exact Calls.cl (l6In_any _ _ _ _)))) | (refine wpQuiet_step (fun K hK => ?_); go_simp; split <;> (rename_i hg; refine hK _ ?_; clear hK K; simp only [hg, decide_true, decide_false]))))
              all_goals (refine wpQuiet_nil ?_; intro x)
              go_wp2
              go_roundw
              case rel => exact ⟨0 + 1, by omega, by go_num, hall2, hF.cl x⟩
              case measure => simp [intOf]; omega
            · have e1 : decide (Bts x0 1 9) = false := by simp [d1]
              have hp := Lib.hid (mok_no hn.out hlt (fun g => d1 (hst.out.1 g)))
              clear d1
              have c0 := fun z : Cl wr.heap.size wr => Cl.old hF z G0.out
              (try (have c1 := fun z : Cl wr.heap.size wr => Cl.old hF z G1.out))
              go_wp2
              first | refine wp_region_new (by kernel_rfl) (by kernel_rfl) ?_ | refine wp_region_lex ?_
              repeat (any_goals (first | go_big_quiet_step (((go_at_call 22; exact Calls.cl (l6In_any _ _ _ _)))) | (refine wpQuiet_step (fun K hK => ?_); go_simp; split <;> (rename_i hg; refine hK _ ?_; clear hK K; simp only [hg, decide_true, decide_false]))))
              all_goals (refine wpQuiet_nil ?_; intro x)
              go_wp2
              go_ret
              exact ⟨by rw [hp.out]; rfl, (hF.cl x).kp⟩
          · obtain ⟨k', hk1, hk2⟩ : ∃ k', k' + 1 ≤ k ∧ k ≤ k' + 1 := ⟨k - 1, by omega, by omega⟩
            have hsub : (k : Int) - 1 = (k' : Int) := by omega
            have hkpos : (0 : Int) < k := by omega
            have hkp : 0 < k := by omega
            have hk'n : k' < n := by omega
            obtain ⟨y0, hy⟩ := get_of hn.out hk'n
            have G1 := Lib.hid (hc.out k' y0 hy)
            have hst := Lib.hid (step_s hk1 hk2 hy HX.out)
            clear hy h0
            by_cases d1 : Bts x0 1 9
            · have e1 : decide (Bts x0 1 9) = true := by simp [d1]
              by_cases d2 : x0 ≤ y0
              · have hp := Lib.hid (mok_no hn.out hlt (fun g => by have := (hst.out.1 g).2; omega))
                clear d1
                have c0 := fun z : Cl wr.heap.size wr => Cl.old hF z G0.out
                (try (have c1 := fun z : Cl wr.heap.size wr => Cl.old hF z G1.out))
                go_wp2
                first | refine wp_region_new (by kernel_rfl) (by kernel_rfl) ?_ | refine wp_region_lex ?_
                repeat (any_goals (first | go_big_quiet_step (((go_at_call 22; exact Calls.cl (l6In_any _ _ _ _)))) | (refine wpQuiet_step (fun K hK => ?_); go_simp; split <;> (rename_i hg; refine hK _ ?_; clear hK K; simp only [hg, decide_true, decide_false]))))
                all_goals (refine wpQuiet_nil ?_; intro x)
                go_wp2
                go_ret
                exact ⟨by rw [hp.out]; rfl, (hF.cl x).kp⟩
              · have hall2 : Hid (∀ j, j < k + 1 → StepM M j) := stepM_go (n := n) hall.out (hst.out.2 ⟨d1, by omega⟩)
                clear d1
                have c0 := fun z : Cl wr.heap.size wr => Cl.old hF z G0.out
                (try (have c1 := fun z : Cl wr.heap.size wr => Cl.old hF z G1.out))
                go_wp2
                first | refine wp_region_new (by kernel_rfl) (by kernel_rfl) ?_ | refine wp_region_lex ?_
                repeat (any_goals (first | go_big_quiet_step (((go_at_call 22; exact Calls.cl (l6In_any _ _ _ _)))) | (refine wpQuiet_step (fun K hK => ?_); go_simp; split <;> (rename_i hg; refine hK _ ?_; clear hK K; simp only [hg, decide_true, decide_false]))))
                all_goals (refine wpQuiet_nil ?_; intro x)
                go_wp2
                go_roundw
                case rel => exact ⟨k + 1, by omega, by go_num, hall2, hF.cl x⟩
                case measure => simp [intOf]; omega
            · have e1 : decide (Bts x0 1 9) = false := by simp [d1]
              have hp := Lib.hid (mok_no hn.out hlt (fun g => d1 (hst.out.1 g).1))
              clear d1
              have c0 := fun z : Cl wr.heap.size wr => Cl.old hF z G0.out
              (try (have c1 := fun z : Cl wr.heap.size wr => Cl.old hF z G1.out))
              go_wp2
              first | refine wp_region_new (by kernel_rfl) (by kernel_rfl) ?_ | refine wp_region_lex ?_
              repeat (any_goals (first | go_big_quiet_step (((go_at_call 22; exact Calls.cl (l6In_any _ _ _ _)))) | (refine wpQuiet_step (fun K hK => ?_); go_simp; split <;> (rename_i hg; refine hK _ ?_; clear hK K; simp only [hg, decide_true, decide_false]))))
              all_goals (refine wpQuiet_nil ?_; intro x)
              go_wp2
              go_ret
              exact ⟨by rw [hp.out]; rfl, (hF.cl x).kp⟩
      · have hp := Lib.hid (mok_yes hn.out (fun j hj => hall.out j (by omega)))
        go_wp2
        go_ret
        exact ⟨by rw [hp.out]; rfl, hF.kp⟩
end Go.Proofs.Ytjkfnjjkjhggfaa
set_option linter.unusedSimpArgs false
set_option linter.unusedVariables false
namespace Go.Proofs.Ytjkfnjjkjhggfaa
open Go.RowKit

def RtOk (f b : Int) (P : List Int) (lk : Int) (M : List Int) : Prop := ROk f b ∧ 0 < P.length ∧ POk P ∧ Bts lk 0 9 ∧ MOk M
instance (f b : Int) (P : List Int) (lk : Int) (M : List Int) : Decidable (RtOk f b P lk M) := by unfold RtOk; infer_instance
set_option maxHeartbeats 2000000 in
theorem sRouteOk_any (f b lk : Int) (pv mv : Value) (P M : List Int) (w : World) (hp : Ints w pv P) (hm : Ints w mv M) :
    Calls Try.prog 50 #[.agg #[.int .i64 f, .int .i64 b, pv, .int .i64 lk, mv]] w fun e w' => e = .returned (.bool (decide (RtOk f b P lk M))) ∧ Below w.heap.size w w' := by
  obtain ⟨ao, c1, rfl, -⟩ := hp.ex
  obtain ⟨ao2, c2, rfl, -⟩ := hm.ex
  obtain ⟨n, hn⟩ : ∃ n, Hid (P.length = n) := ⟨_, rfl⟩
  obtain ⟨m, hmn⟩ : ∃ m, Hid (M.length = m) := ⟨_, rfl⟩
  rw [hn.out] at hp ⊢
  rw [hmn.out] at hm ⊢
  have hF := (Fb.start w).alloc [.int .i64 f, .int .i64 b, .slice ao n c1, .int .i64 lk, .slice ao2 m c2] 64
  have hb0 := (Below.refl w.heap.size w).alloc (Nat.le_refl _) (.cells #[.int .i64 f, .int .i64 b, .slice ao n c1, .int .i64 lk, .slice ao2 m c2] 64)
  replace hp := Rows.below hp hb0
  replace hm := Rows.below hm hb0
  clear hb0
  have o := hF.own; simp only [World.size_alloc, World.size_drew, World.size_setCell, List.mem_cons, List.not_mem_nil, or_false, forall_eq_or_imp, forall_eq, At, and_true, Nat.zero_add, Nat.reduceAdd, List.set_cons_zero, List.set_cons_succ] at o
  go_enter Try.func50, Try.ntmps50
  by_cases h1 : ROk f b
  · have d1 : decide (ROk f b) = true := by simp [h1]
    by_cases h3 : POk P
    · have d3 : decide (POk P) = true := by simp [h3]
      by_cases h2 : 0 < n
      · have d2 : (0 : Int) < n := by omega
        by_cases h4 : Bts lk 0 9
        · have d4 : decide (Bts lk 0 9) = true := by simp [h4]
          have hr : Hid (decide (RtOk f b P lk M) = decide (MOk M)) := decide_eq_decide.2 ⟨fun g => g.2.2.2.2, fun g => ⟨h1, by rw [hn.out]; exact h2, h3, h4, g⟩⟩
          clear h1 h2 h3 h4
          go_wp2_with (first | (go_at_call 54; go_must (refine (sRangeOk_any _ _ _).mono ?_); rintro e wx ⟨rfl, hbx⟩; replace hF := hF.below hbx; (try replace hE := hE.below hbx); replace hp := Rows.below hp hbx; replace hm := Rows.below hm hbx; clear hbx o; have o := hF.own; simp only [World.size_alloc, World.size_drew, World.size_setCell, List.mem_cons, List.not_mem_nil, or_false, forall_eq_or_imp, forall_eq, At, and_true, Nat.zero_add, Nat.reduceAdd, List.set_cons_zero, List.set_cons_succ] at o) | (go_at_call 59; go_must (refine (sPathOk_any _ P _ hp).mono ?_); rintro e wx ⟨rfl, hbx⟩; replace hF := hF.below hbx; (try replace hE := hE.below hbx); replace hp := Rows.below hp hbx; replace hm := Rows.below hm hbx; clear hbx o; have o := hF.own; simp only [World.size_alloc, World.size_drew, World.size_setCell, List.mem_cons, List.not_mem_nil, or_false, forall_eq_or_imp, forall_eq, At, and_true, Nat.zero_add, Nat.reduceAdd, List.set_cons_zero, List.set_cons_succ] at o) | (go_at_call 22; go_must (refine (l6In_any _ _ _ _).mono ?_); rintro e wx ⟨rfl, hbx⟩; replace hF := hF.below hbx; (try replace hE := hE.below hbx); replace hp := Rows.below hp hbx; replace hm := Rows.below hm hbx; clear hbx o; have o := hF.own; simp only [World.size_alloc, World.size_drew, World.size_setCell, List.mem_cons, List.not_mem_nil, or_false, forall_eq_or_imp, forall_eq, At, and_true, Nat.zero_add, Nat.reduceAdd, List.set_cons_zero, List.set_cons_succ] at o) | (go_at_call 60; go_must (refine (sMarks_any _ M _ hm).mono ?_); rintro e wx ⟨rfl, hbx⟩; replace hF := hF.below hbx; (try replace hE := hE.below hbx); replace hp := Rows.below hp hbx; replace hm := Rows.below hm hbx; clear hbx o; have o := hF.own; simp only [World.size_alloc, World.size_drew, World.size_setCell, List.mem_cons, List.not_mem_nil, or_false, forall_eq_or_imp, forall_eq, At, and_true, Nat.zero_add, Nat.reduceAdd, List.set_cons_zero, List.set_cons_succ] at o))
          go_ret
          exact ⟨by rw [hr.out]; rfl, hF.kp⟩
        · have d4 : decide (Bts lk 0 9) = false := by simp [h4]
          have hr : Hid (decide (RtOk f b P lk M) = false) := decide_eq_false fun g => h4 g.2.2.2.1
          clear h1 h2 h3 h4
          go_wp2_with (first | (go_at_call 54; go_must (refine (sRangeOk_any _ _ _).mono ?_); rintro e wx ⟨rfl, hbx⟩; replace hF := hF.below hbx; (try replace hE := hE.below hbx); replace hp := Rows.below hp hbx; replace hm := Rows.below hm hbx; clear hbx o; have o := hF.own; simp only [World.size_alloc, World.size_drew, World.size_setCell, List.mem_cons, List.not_mem_nil, or_false, forall_eq_or_imp, forall_eq, At, and_true, Nat.zero_add, Nat.reduceAdd, List.set_cons_zero, List.set_cons_succ] at o) | (go_at_call 59; go_must (refine (sPathOk_any _ P _ hp).mono ?_); rintro e wx ⟨rfl, hbx⟩; replace hF := hF.below hbx; (try replace hE := hE.below hbx); replace hp := Rows.below hp hbx; replace hm := Rows.below hm hbx; clear hbx o; have o := hF.own; simp only [World.size_alloc, World.size_drew, World.size_setCell, List.mem_cons, List.not_mem_nil, or_false, forall_eq_or_imp, forall_eq, At, and_true, Nat.zero_add, Nat.reduceAdd, List.set_cons_zero, List.set_cons_succ] at o) | (go_at_call 22; go_must (refine (l6In_any _ _ _ _).mono ?_); rintro e wx ⟨rfl, hbx⟩; replace hF := hF.below hbx; (try replace hE := hE.below hbx); replace hp := Rows.below hp hbx; replace hm := Rows.below hm hbx; clear hbx o; have o := hF.own; simp only [World.size_alloc, World.size_drew, World.size_setCell, List.mem_cons, List.not_mem_nil, or_false, forall_eq_or_imp, forall_eq, At, and_true, Nat.zero_add, Nat.reduceAdd, List.set_cons_zero, List.set_cons_succ] at o) | (go_at_call 60; go_must (refine (sMarks_any _ M _ hm).mono ?_); rintro e wx ⟨rfl, hbx⟩; replace hF := hF.below hbx; (try replace hE := hE.below hbx); replace hp := Rows.below hp hbx; replace hm := Rows.below hm hbx; clear hbx o; have o := hF.own; simp only [World.size_alloc, World.size_drew, World.size_setCell, List.mem_cons, List.not_mem_nil, or_false, forall_eq_or_imp, forall_eq, At, and_true, Nat.zero_add, Nat.reduceAdd, List.set_cons_zero, List.set_cons_succ] at o))
          go_ret
          exact ⟨by rw [hr.out]; rfl, hF.kp⟩
      · have d2 : ¬ (0 : Int) < n := by omega
        have hr : Hid (decide (RtOk f b P lk M) = false) := decide_eq_false fun g => h2 (by have := g.2.1; rwa [hn.out] at this)
        clear h1 h2 h3
        go_wp2_with (first | (go_at_call 54; go_must (refine (sRangeOk_any _ _ _).mono ?_); rintro e wx ⟨rfl, hbx⟩; replace hF := hF.below hbx; (try replace hE := hE.below hbx); replace hp := Rows.below hp hbx; replace hm := Rows.below hm hbx; clear hbx o; have o := hF.own; simp only [World.size_alloc, World.size_drew, World.size_setCell, List.mem_cons, List.not_mem_nil, or_false, forall_eq_or_imp, forall_eq, At, and_true, Nat.zero_add, Nat.reduceAdd, List.set_cons_zero, List.set_cons_succ] at o) | (go_at_call 59; go_must (refine (sPathOk_any _ P _ hp).mono ?_); rintro e wx ⟨rfl, hbx⟩; replace hF := hF.below hbx; (try replace hE := hE.below hbx); replace hp := Rows.below hp hbx; replace hm := Rows.below hm hbx; clear hbx o; have o := hF.own; simp only [World.size_alloc, World.size_drew, World.size_setCell, List.mem_cons, List.not_mem_nil, or_false, forall_eq_or_imp, forall_eq, At, and_true, Nat.zero_add, Nat.reduceAdd, List.set_cons_zero, List.set_cons_succ] at o) | (go_at_call 22; go_must (refine (l6In_any _ _ _ _).mono ?_); rintro e wx ⟨rfl, hbx⟩; replace hF := hF.below hbx; (try replace hE := hE.below hbx); replace hp := Rows.below hp hbx; replace hm := Rows.below hm hbx; clear hbx o; have o := hF.own; simp only [World.size_alloc, World.size_drew, World.size_setCell, List.mem_cons, List.not_mem_nil, or_false, forall_eq_or_imp, forall_eq, At, and_true, Nat.zero_add, Nat.reduceAdd, List.set_cons_zero, List.set_cons_succ] at o) | (go_at_call 60; go_must (refine (sMarks_any _ M _ hm).mono ?_); rintro e wx ⟨rfl, hbx⟩; replace hF := hF.below hbx; (try replace hE := hE.below hbx); replace hp := Rows.below hp hbx; replace hm := Rows.below hm hbx; clear hbx o; have o := hF.own; simp only [World.size_alloc, World.size_drew, World.size_setCell, List.mem_cons, List.not_mem_nil, or_false, forall_eq_or_imp, forall_eq, At, and_true, Nat.zero_add, Nat.reduceAdd, List.set_cons_zero, List.set_cons_succ] at o))
        go_ret
        exact ⟨by rw [hr.out]; rfl, hF.kp⟩
    · have d3 : decide (POk P) = false := by simp [h3]
      have hr : Hid (decide (RtOk f b P lk M) = false) := decide_eq_false fun g => h3 g.2.2.1
      clear h1 h3
      go_wp2_with (first | (go_at_call 54; go_must (refine (sRangeOk_any _ _ _).mono ?_); rintro e wx ⟨rfl, hbx⟩; replace hF := hF.below hbx; (try replace hE := hE.below hbx); replace hp := Rows.below hp hbx; replace hm := Rows.below hm hbx; clear hbx o; have o := hF.own; simp only [World.size_alloc, World.size_drew, World.size_setCell, List.mem_cons, List.not_mem_nil, or_false, forall_eq_or_imp, forall_eq, At, and_true, Nat.zero_add, Nat.reduceAdd, List.set_cons_zero, List.set_cons_succ] at o) | (go_at_call 59; go_must (refine (sPathOk_any _ P _ hp).mono ?_); rintro e wx ⟨rfl, hbx⟩; replace hF := hF.below hbx; (try replace hE := hE.below hbx); replace hp := Rows.below hp hbx; replace hm := Rows.below hm hbx; clear hbx o; have o := hF.own; simp only [World.size_alloc, World.size_drew, World.size_setCell, List.mem_cons, List.not_mem_nil, or_false, forall_eq_or_imp, forall_eq, At, and_true, Nat.zero_add, Nat.reduceAdd, List.set_cons_zero, List.set_cons_succ] at o) | (go_at_call 22; go_must (refine (l6In_any _ _ _ _).mono ?_); rintro e wx ⟨rfl, hbx⟩; replace hF := hF.below hbx; (try replace hE := hE.below hbx); replace hp := Rows.below hp hbx; replace hm := Rows.below hm hbx; clear hbx o; have o := hF.own; simp only [World.size_alloc, World.size_drew, World.size_setCell, List.mem_cons, List.not_mem_nil, or_false, forall_eq_or_imp, forall_eq, At, and_true, Nat.zero_add, Nat.reduceAdd, List.set_cons_zero, List.set_cons_succ] at o) | (go_at_call 60; go_must (refine (sMarks_any _ M _ hm).mono ?_); rintro e wx ⟨rfl, hbx⟩; replace hF := hF.below hbx; (try replace hE := hE.below hbx); replace hp := Rows.below hp hbx; replace hm := Rows.below hm hbx; clear hbx o; have o := hF.own; simp only [World.size_alloc, World.size_drew, World.size_setCell, List.mem_cons, List.not_mem_nil, or_false, forall_eq_or_imp, forall_eq, At, and_true, Nat.zero_add, Nat.reduceAdd, List.set_cons_zero, List.set_cons_succ] at o))
      go_ret
      exact ⟨by rw [hr.out]; rfl, hF.kp⟩
  · have d1 : decide (ROk f b) = false := by simp [h1]
    have hr : Hid (decide (RtOk f b P lk M) = false) := decide_eq_false fun g => h1 g.1
    clear h1
    go_wp2_with (first | (go_at_call 54; go_must (refine (sRangeOk_any _ _ _).mono ?_); rintro e wx ⟨rfl, hbx⟩; replace hF := hF.below hbx; (try replace hE := hE.below hbx); replace hp := Rows.below hp hbx; replace hm := Rows.below hm hbx; clear hbx o; have o := hF.own; simp only [World.size_alloc, World.size_drew, World.size_setCell, List.mem_cons, List.not_mem_nil, or_false, forall_eq_or_imp, forall_eq, At, and_true, Nat.zero_add, Nat.reduceAdd, List.set_cons_zero, List.set_cons_succ] at o) | (go_at_call 59; go_must (refine (sPathOk_any _ P _ hp).mono ?_); rintro e wx ⟨rfl, hbx⟩; replace hF := hF.below hbx; (try replace hE := hE.below hbx); replace hp := Rows.below hp hbx; replace hm := Rows.below hm hbx; clear hbx o; have o := hF.own; simp only [World.size_alloc, World.size_drew, World.size_setCell, List.mem_cons, List.not_mem_nil, or_false, forall_eq_or_imp, forall_eq, At, and_true, Nat.zero_add, Nat.reduceAdd, List.set_cons_zero, List.set_cons_succ] at o) | (go_at_call 22; go_must (refine (l6In_any _ _ _ _).mono ?_); rintro e wx ⟨rfl, hbx⟩; replace hF := hF.below hbx; (try replace hE := hE.below hbx); replace hp := Rows.below hp hbx; replace hm := Rows.below hm hbx; clear hbx o; have o := hF.own; simp only [World.size_alloc, World.size_drew, World.size_setCell, List.mem_cons, List.not_mem_nil, or_false, forall_eq_or_imp, forall_eq, At, and_true, Nat.zero_add, Nat.reduceAdd, List.set_cons_zero, List.set_cons_succ] at o) | (go_at_call 60; go_must (refine (sMarks_any _ M _ hm).mono ?_); rintro e wx ⟨rfl, hbx⟩; replace hF := hF.below hbx; (try replace hE := hE.below hbx); replace hp := Rows.below hp hbx; replace hm := Rows.below hm hbx; clear hbx o; have o := hF.own; simp only [World.size_alloc, World.size_drew, World.size_setCell, List.mem_cons, List.not_mem_nil, or_false, forall_eq_or_imp, forall_eq, At, and_true, Nat.zero_add, Nat.reduceAdd, List.set_cons_zero, List.set_cons_succ] at o))
    go_ret
    exact ⟨by rw [hr.out]; rfl, hF.kp⟩
end Go.Proofs.Ytjkfnjjkjhggfaa
set_option linter.unusedSimpArgs false
set_option linter.unusedVariables false
namespace Go.Proofs.Ytjkfnjjkjhggfaa
open Go Go.RowKit

section
variable {P : Program} {ops : Array Oper} {md : Region.Mode} {C : World → Prop}

/-- Whatever order the head's operations come up in, each has its one value, and L holds behind them. -/
def HeadQ (P : Program) (md : Region.Mode) (ops : Array Oper) (C : World → Prop) (n : Nat) (L : Array Bool → Act → Prop) : Nat → Array Bool → Act → Prop
  | 0, ls, a => L ls a
  | f + 1, ls, a => Region.ready md ops ls ≠ [] ∧ ∀ i ∈ Region.ready md ops ls, i < n ∧ qOp P ops C i (HeadQ P md ops C n L f (ls.setIfInBounds i true)) a

theorem HeadQ.any {n g : Nat} {L : Array Bool → Act → Prop} {Q : Exit → Act → World → Prop} (hL : ∀ ls a w, C w → L ls a → wpAny P md ops Q g ls a w) :
    ∀ f ls a w, C w → HeadQ P md ops C n L f ls a → wpAny P md ops Q (f + g) ls a w
  | 0, ls, a, w, hw, h => by rw [Nat.zero_add]; exact hL ls a w hw h
  | f + 1, ls, a, w, hw, ⟨h1, h2⟩ => by
    rw [Nat.add_right_comm]
    refine ⟨fun e => absurd e h1, fun i hi => ?_⟩
    exact wpOp_of_qOp hw (fun a' w' hw' k => HeadQ.any hL f _ a' w' hw' k) (h2 i hi).2

/-- One of the head that is ready, and apart from all that does not wait for it, may as well come first. -/
theorem HeadQ.first {n i : Nat} {o : Oper} {v : Value} {L : Array Bool → Act → Prop} (ho : ops[i]? = some o) (hsel : ∀ (j : Nat) (o : Oper) cs b, ops[j]? = some o → o.op ≠ .select cs b)
    (hs : Region.sinkB md ops n = true) (hc : Region.chainB md ops n = true) (hn : n < ops.size) (hin : i < n) (hend : ∀ ls a, L ls a → ∀ j ∈ Region.ready md ops ls, n ≤ j) :
    ∀ f ls a, HeadInv md ops n ls → (∀ j oj, ops[j]? = some oj → j ≠ i → ls.getD j true = false → (∀ e ∈ oj.after, Region.binds md e = true → e.on ≠ i) → o.apart ops oj = true) →
      i ∈ Region.ready md ops ls → YieldsIn P ops C o v a → HeadQ P md ops C n L f (ls.setIfInBounds i true) (a.put o.dst v) → HeadQ P md ops C n L (f + 1) ls a := by
  intro f
  induction f with
  | zero =>
    intro ls a inv _ hi hy k
    have hnot : ∀ j ∈ Region.ready md ops ls, j < n := fun j hj => Classical.byContradiction fun g => tail_waits hs hc hn inv _ i rfl hin (mem_ready.1 hi).1 j (by omega) hj
    refine ⟨fun e => (by rw [e] at hi; cases hi), fun j hj => ⟨hnot j hj, ?_⟩⟩
    by_cases e : j = i
    · subst e; exact hy.qOp ho k
    · have h1 := hend _ _ k j (ready_mono hj e)
      have h2 := hnot j hj
      omega
  | succ f ih =>
    intro ls a inv hap hi hy k
    have hnot : ∀ j ∈ Region.ready md ops ls, j < n := fun j hj => Classical.byContradiction fun g => tail_waits hs hc hn inv _ i rfl hin (mem_ready.1 hi).1 j (by omega) hj
    refine ⟨fun e => (by rw [e] at hi; cases hi), fun j hj => ⟨hnot j hj, ?_⟩⟩
    by_cases e : j = i
    · subst e; exact hy.qOp ho k
    · obtain ⟨hju, oj, hoj, haft⟩ := mem_ready.1 hj
      have hfree : ∀ x ∈ oj.after, Region.binds md x = true → x.on ≠ i := fun x hx hb q => by
        have := haft x hx hb
        rw [q, getD_both (mem_ready.1 hi).1] at this
        cases this
      have hq := qOp_put hoj (hap j oj hoj e hju hfree) (fun cs b => hsel i o cs b ho) (fun cs b => hsel j oj cs b hoj) hy (k.2 j (ready_mono hj e)).2
      refine qOp_mono (fun a' ha' => ih (ls.setIfInBounds j true) a' (inv.set hj (hnot j hj)) (fun m om hm hmi hmu hno => hap m om hm hmi ?_ hno) (ready_mono hi (Ne.symm e)) ha'.1 ?_) hq
      · by_cases q : j = m
        · subst q; exact hju
        · rwa [getD_set_ne true q] at hmu
      · rw [Array.setIfInBounds_comm _ _ e]
        exact ha'.2

theorem HeadQ.lex {n g : Nat} {K : Act → Prop} (hsel : Region.noSelect ops = true) (hs : Region.sinkB md ops n = true) (hc : Region.chainB md ops n = true) (hn : n < ops.size) :
    ∀ (l : List Oper) (k : Nat) (ls : Array Bool) (a : Act), (∀ j, j < l.length → l[j]? = ops[k + j]?) → k + l.length = n → HeadInv md ops n ls → Region.lexHead md ops g l.length k ls = true →
      wpQuiet P ops C K l a → HeadQ P md ops C n (fun ls a => Region.seqB md ops g n ls = true ∧ K a) l.length ls a
  | [], k, ls, a, _, hk, _, hB, h => by
    obtain rfl : k = n := by simpa using hk
    exact ⟨by simpa [Region.lexHead] using hB, h⟩
  | o :: l, k, ls, a, hl, hk, inv, hB, h => by
    have ho : ops[k]? = some o := by simpa using (hl 0 (by simp)).symm
    simp only [List.length_cons, Region.lexHead, Bool.and_eq_true] at hB hk
    have hr : k ∈ Region.ready md ops ls := by simpa using hB.1.1
    have hq : qOp P ops C k (wpQuiet P ops C K l) a := by unfold qOp; simp only [ho]; exact h
    obtain ⟨v, hy, hK⟩ := yieldsIn_of_qOp ho hq
    refine HeadQ.first ho (Region.noSelect_spec hsel) hs hc hn (by omega) (fun ls a hL => seqB_ready hL.1) l.length ls a inv (Region.free_spec ho hB.1.2) hr hy ?_
    exact HeadQ.lex hsel hs hc hn l (k + 1) _ _ (fun j hj => by have := hl (j + 1) (by simp; omega); simpa [Nat.add_assoc, Nat.add_comm 1 j] using this) (by omega) (inv.set hr (by omega)) hB.2 hK
end

/-- The region. -/
theorem wp_region_tail {P : Program} {id : Nat} {Q : Exit → Act → World → Prop} {a : Act} {w : World} {l : List Oper} (n : Nat) (hm : P.follows .mixedOrders = true) (hB : Region.lexTailB .any l.toArray n = true)
    (h : wpQuiet P l.toArray (fun w' => ∃ x : Cl w.heap.size w, w' = x.W) (fun a' => ∀ x : Cl w.heap.size w, wpList P l.toArray Q (l.drop n) a' x.W) (l.take n) a) : (Code.region id l.toArray true).wp P Q a w := by
  simp only [Region.lexTailB, Bool.and_eq_true, decide_eq_true_eq] at hB
  obtain ⟨⟨⟨⟨hsel, hn⟩, hs⟩, hc⟩, hlex⟩ := hB
  have hnl : n < l.length := by simpa using hn
  have e1 : (l.take n).length = n := by simp; omega
  have e2 : (l.drop n).length = l.toArray.size - n := by simp
  have inv0 : HeadInv .any l.toArray n (Array.replicate l.toArray.size false) :=
    ⟨by simp, fun j oj _ hl => (by rw [getD_replicate_false] at hl; cases hl), fun t _ ht => getD_in (by simpa using ht) (getD_replicate_false _ _)⟩
  have H := HeadQ.lex (md := .any) (g := l.toArray.size - n) hsel hs hc hn (l.take n) 0 _ a (fun j hj => by rw [e1] at hj; simp [hj]) (by rw [e1, Nat.zero_add]) inv0 (by rw [e1]; exact hlex) h
  refine wp_region_any hm ?_
  have key := HeadQ.any (Q := Q) (g := l.toArray.size - n) (fun ls a' w' hw' hL => by
    obtain ⟨x, rfl⟩ := hw'
    have := wpAny_of_seq (md := .any) (Q' := Q) (l.drop n) n ls a' x.W (fun j => by simp [List.getElem?_drop]) (by rw [e2]; exact hL.1) (hL.2 x)
    rwa [e2] at this) _ _ _ w.drew ⟨⟨w.drew, (Below.refl _ _).drew⟩, rfl⟩ H
  rw [e1, show n + (l.toArray.size - n) = l.toArray.size by omega] at key
  exact key
end Go.Proofs.Ytjkfnjjkjhggfaa
