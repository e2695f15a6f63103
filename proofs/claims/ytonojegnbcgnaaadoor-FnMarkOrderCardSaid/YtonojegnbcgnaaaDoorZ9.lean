/- Is a route ok. A drawn region whose head only reads, draws and calls what keeps old memory, and whose last operations stand in one order (they make memory): one walk of the head, then the tail. Routes compared. -/
import Derived.Test.YtonojegnbcgnaaaDoorZ8
import Derived.Test.YtonojegnbcgnaaaDoorZ1
import Derived.StillTail
set_option linter.unusedSimpArgs false
set_option linter.unusedVariables false
namespace Go.Proofs.YtonojegnbcgnaaaDoor
open Go.RowKit

def RtOk (f b : Int) (P : List Int) (lk : Int) (M : List Int) : Prop := ROk f b ∧ 0 < P.length ∧ POk P ∧ Bts lk 0 9 ∧ MOk M
instance (f b : Int) (P : List Int) (lk : Int) (M : List Int) : Decidable (RtOk f b P lk M) := by unfold RtOk; infer_instance
set_option maxHeartbeats 2000000 in
theorem iRouteOk_any (f b lk : Int) (pv mv : Value) (P M : List Int) (a : Addr) (w : World) (hp : Ints w pv P) (hm : Ints w mv M) (hE : EPath w a) :
    Calls Tryd.prog 20 #[.agg #[.int .i64 f, .int .i64 b, pv, .int .i64 lk, mv]] w fun e w' => e = .returned (.bool (decide (RtOk f b P lk M))) ∧ Below w.heap.size w w' := by
  obtain ⟨ao, c1, rfl, -⟩ := hp.ex
  obtain ⟨ao2, c2, rfl, -⟩ := hm.ex
  obtain ⟨n, hn⟩ : ∃ n, Hid (P.length = n) := ⟨_, rfl⟩
  obtain ⟨m, hmn⟩ : ∃ m, Hid (M.length = m) := ⟨_, rfl⟩
  rw [hn.out] at hp ⊢
  rw [hmn.out] at hm ⊢
  have hF := (Fb.start w).alloc [.int .i64 f, .int .i64 b, .slice ao n c1, .int .i64 lk, .slice ao2 m c2] 27
  have hb0 := (Below.refl w.heap.size w).alloc (Nat.le_refl _) (.cells #[.int .i64 f, .int .i64 b, .slice ao n c1, .int .i64 lk, .slice ao2 m c2] 27)
  replace hp := Rows.below hp hb0
  replace hm := Rows.below hm hb0
  replace hE := hE.below hb0
  clear hb0
  have o := hF.own; simp only [World.size_alloc, World.size_drew, World.size_setCell, List.mem_cons, List.not_mem_nil, or_false, forall_eq_or_imp, forall_eq, At, and_true, Nat.zero_add, Nat.reduceAdd, List.set_cons_zero, List.set_cons_succ] at o
  go_enter Tryd.func20, Tryd.ntmps20
  by_cases h1 : ROk f b
  · have d1 : decide (ROk f b) = true := by simp [h1]
    by_cases h2 : 0 < n
    · have d2 : (0 : Int) < n := by omega
      by_cases h3 : POk P
      · have d3 : decide (POk P) = true := by simp [h3]
        by_cases h4 : 0 ≤ lk
        · by_cases h5 : lk ≤ 9
          · have hr : Hid (decide (RtOk f b P lk M) = decide (MOk M)) := decide_eq_decide.2 ⟨fun g => g.2.2.2.2, fun g => ⟨h1, by rw [hn.out]; exact h2, h3, ⟨h4, h5⟩, g⟩⟩
            clear h1 h2 h3
            go_wp2_with (first | (go_at_call 56; go_must (refine (iRangeOk_any _ _ _).mono ?_); rintro e wx ⟨rfl, hbx⟩; replace hF := hF.below hbx; (try replace hE := hE.below hbx); replace hp := Rows.below hp hbx; replace hm := Rows.below hm hbx; clear hbx o; have o := hF.own; simp only [World.size_alloc, World.size_drew, World.size_setCell, List.mem_cons, List.not_mem_nil, or_false, forall_eq_or_imp, forall_eq, At, and_true, Nat.zero_add, Nat.reduceAdd, List.set_cons_zero, List.set_cons_succ] at o) | (go_at_call 57; go_must (refine (iPathOk_any _ P a _ hp hE).mono ?_); rintro e wx ⟨rfl, hbx⟩; replace hF := hF.below hbx; (try replace hE := hE.below hbx); replace hp := Rows.below hp hbx; replace hm := Rows.below hm hbx; clear hbx o; have o := hF.own; simp only [World.size_alloc, World.size_drew, World.size_setCell, List.mem_cons, List.not_mem_nil, or_false, forall_eq_or_imp, forall_eq, At, and_true, Nat.zero_add, Nat.reduceAdd, List.set_cons_zero, List.set_cons_succ] at o) | (go_at_call 58; go_must (refine (iMarks_any _ M _ hm).mono ?_); rintro e wx ⟨rfl, hbx⟩; replace hF := hF.below hbx; (try replace hE := hE.below hbx); replace hp := Rows.below hp hbx; replace hm := Rows.below hm hbx; clear hbx o; have o := hF.own; simp only [World.size_alloc, World.size_drew, World.size_setCell, List.mem_cons, List.not_mem_nil, or_false, forall_eq_or_imp, forall_eq, At, and_true, Nat.zero_add, Nat.reduceAdd, List.set_cons_zero, List.set_cons_succ] at o))
            go_ret
            exact ⟨by rw [hr.out]; rfl, hF.kp⟩
          · have hr : Hid (decide (RtOk f b P lk M) = false) := decide_eq_false fun g => h5 g.2.2.2.1.2
            clear h1 h2 h3
            go_wp2_with (first | (go_at_call 56; go_must (refine (iRangeOk_any _ _ _).mono ?_); rintro e wx ⟨rfl, hbx⟩; replace hF := hF.below hbx; (try replace hE := hE.below hbx); replace hp := Rows.below hp hbx; replace hm := Rows.below hm hbx; clear hbx o; have o := hF.own; simp only [World.size_alloc, World.size_drew, World.size_setCell, List.mem_cons, List.not_mem_nil, or_false, forall_eq_or_imp, forall_eq, At, and_true, Nat.zero_add, Nat.reduceAdd, List.set_cons_zero, List.set_cons_succ] at o) | (go_at_call 57; go_must (refine (iPathOk_any _ P a _ hp hE).mono ?_); rintro e wx ⟨rfl, hbx⟩; replace hF := hF.below hbx; (try replace hE := hE.below hbx); replace hp := Rows.below hp hbx; replace hm := Rows.below hm hbx; clear hbx o; have o := hF.own; simp only [World.size_alloc, World.size_drew, World.size_setCell, List.mem_cons, List.not_mem_nil, or_false, forall_eq_or_imp, forall_eq, At, and_true, Nat.zero_add, Nat.reduceAdd, List.set_cons_zero, List.set_cons_succ] at o) | (go_at_call 58; go_must (refine (iMarks_any _ M _ hm).mono ?_); rintro e wx ⟨rfl, hbx⟩; replace hF := hF.below hbx; (try replace hE := hE.below hbx); replace hp := Rows.below hp hbx; replace hm := Rows.below hm hbx; clear hbx o; have o := hF.own; simp only [World.size_alloc, World.size_drew, World.size_setCell, List.mem_cons, List.not_mem_nil, or_false, forall_eq_or_imp, forall_eq, At, and_true, Nat.zero_add, Nat.reduceAdd, List.set_cons_zero, List.set_cons_succ] at o))
            go_ret
            exact ⟨by rw [hr.out]; rfl, hF.kp⟩
        · have hr : Hid (decide (RtOk f b P lk M) = false) := decide_eq_false fun g => h4 g.2.2.2.1.1
          clear h1 h2 h3
          go_wp2_with (first | (go_at_call 56; go_must (refine (iRangeOk_any _ _ _).mono ?_); rintro e wx ⟨rfl, hbx⟩; replace hF := hF.below hbx; (try replace hE := hE.below hbx); replace hp := Rows.below hp hbx; replace hm := Rows.below hm hbx; clear hbx o; have o := hF.own; simp only [World.size_alloc, World.size_drew, World.size_setCell, List.mem_cons, List.not_mem_nil, or_false, forall_eq_or_imp, forall_eq, At, and_true, Nat.zero_add, Nat.reduceAdd, List.set_cons_zero, List.set_cons_succ] at o) | (go_at_call 57; go_must (refine (iPathOk_any _ P a _ hp hE).mono ?_); rintro e wx ⟨rfl, hbx⟩; replace hF := hF.below hbx; (try replace hE := hE.below hbx); replace hp := Rows.below hp hbx; replace hm := Rows.below hm hbx; clear hbx o; have o := hF.own; simp only [World.size_alloc, World.size_drew, World.size_setCell, List.mem_cons, List.not_mem_nil, or_false, forall_eq_or_imp, forall_eq, At, and_true, Nat.zero_add, Nat.reduceAdd, List.set_cons_zero, List.set_cons_succ] at o) | (go_at_call 58; go_must (refine (iMarks_any _ M _ hm).mono ?_); rintro e wx ⟨rfl, hbx⟩; replace hF := hF.below hbx; (try replace hE := hE.below hbx); replace hp := Rows.below hp hbx; replace hm := Rows.below hm hbx; clear hbx o; have o := hF.own; simp only [World.size_alloc, World.size_drew, World.size_setCell, List.mem_cons, List.not_mem_nil, or_false, forall_eq_or_imp, forall_eq, At, and_true, Nat.zero_add, Nat.reduceAdd, List.set_cons_zero, List.set_cons_succ] at o))
          go_ret
          exact ⟨by rw [hr.out]; rfl, hF.kp⟩
      · have d3 : decide (POk P) = false := by simp [h3]
        have hr : Hid (decide (RtOk f b P lk M) = false) := decide_eq_false fun g => h3 g.2.2.1
        clear h1 h2 h3
        go_wp2_with (first | (go_at_call 56; go_must (refine (iRangeOk_any _ _ _).mono ?_); rintro e wx ⟨rfl, hbx⟩; replace hF := hF.below hbx; (try replace hE := hE.below hbx); replace hp := Rows.below hp hbx; replace hm := Rows.below hm hbx; clear hbx o; have o := hF.own; simp only [World.size_alloc, World.size_drew, World.size_setCell, List.mem_cons, List.not_mem_nil, or_false, forall_eq_or_imp, forall_eq, At, and_true, Nat.zero_add, Nat.reduceAdd, List.set_cons_zero, List.set_cons_succ] at o) | (go_at_call 57; go_must (refine (iPathOk_any _ P a _ hp hE).mono ?_); rintro e wx ⟨rfl, hbx⟩; replace hF := hF.below hbx; (try replace hE := hE.below hbx); replace hp := Rows.below hp hbx; replace hm := Rows.below hm hbx; clear hbx o; have o := hF.own; simp only [World.size_alloc, World.size_drew, World.size_setCell, List.mem_cons, List.not_mem_nil, or_false, forall_eq_or_imp, forall_eq, At, and_true, Nat.zero_add, Nat.reduceAdd, List.set_cons_zero, List.set_cons_succ] at o) | (go_at_call 58; go_must (refine (iMarks_any _ M _ hm).mono ?_); rintro e wx ⟨rfl, hbx⟩; replace hF := hF.below hbx; (try replace hE := hE.below hbx); replace hp := Rows.below hp hbx; replace hm := Rows.below hm hbx; clear hbx o; have o := hF.own; simp only [World.size_alloc, World.size_drew, World.size_setCell, List.mem_cons, List.not_mem_nil, or_false, forall_eq_or_imp, forall_eq, At, and_true, Nat.zero_add, Nat.reduceAdd, List.set_cons_zero, List.set_cons_succ] at o))
        go_ret
        exact ⟨by rw [hr.out]; rfl, hF.kp⟩
    · have d2 : ¬ (0 : Int) < n := by omega
      have hr : Hid (decide (RtOk f b P lk M) = false) := decide_eq_false fun g => h2 (by have := g.2.1; rwa [hn.out] at this)
      clear h1 h2
      go_wp2_with (first | (go_at_call 56; go_must (refine (iRangeOk_any _ _ _).mono ?_); rintro e wx ⟨rfl, hbx⟩; replace hF := hF.below hbx; (try replace hE := hE.below hbx); replace hp := Rows.below hp hbx; replace hm := Rows.below hm hbx; clear hbx o; have o := hF.own; simp only [World.size_alloc, World.size_drew, World.size_setCell, List.mem_cons, List.not_mem_nil, or_false, forall_eq_or_imp, forall_eq, At, and_true, Nat.zero_add, Nat.reduceAdd, List.set_cons_zero, List.set_cons_succ] at o) | (go_at_call 57; go_must (refine (iPathOk_any _ P a _ hp hE).mono ?_); rintro e wx ⟨rfl, hbx⟩; replace hF := hF.below hbx; (try replace hE := hE.below hbx); replace hp := Rows.below hp hbx; replace hm := Rows.below hm hbx; clear hbx o; have o := hF.own; simp only [World.size_alloc, World.size_drew, World.size_setCell, List.mem_cons, List.not_mem_nil, or_false, forall_eq_or_imp, forall_eq, At, and_true, Nat.zero_add, Nat.reduceAdd, List.set_cons_zero, List.set_cons_succ] at o) | (go_at_call 58; go_must (refine (iMarks_any _ M _ hm).mono ?_); rintro e wx ⟨rfl, hbx⟩; replace hF := hF.below hbx; (try replace hE := hE.below hbx); replace hp := Rows.below hp hbx; replace hm := Rows.below hm hbx; clear hbx o; have o := hF.own; simp only [World.size_alloc, World.size_drew, World.size_setCell, List.mem_cons, List.not_mem_nil, or_false, forall_eq_or_imp, forall_eq, At, and_true, Nat.zero_add, Nat.reduceAdd, List.set_cons_zero, List.set_cons_succ] at o))
      go_ret
      exact ⟨by rw [hr.out]; rfl, hF.kp⟩
  · have d1 : decide (ROk f b) = false := by simp [h1]
    have hr : Hid (decide (RtOk f b P lk M) = false) := decide_eq_false fun g => h1 g.1
    clear h1
    go_wp2_with (first | (go_at_call 56; go_must (refine (iRangeOk_any _ _ _).mono ?_); rintro e wx ⟨rfl, hbx⟩; replace hF := hF.below hbx; (try replace hE := hE.below hbx); replace hp := Rows.below hp hbx; replace hm := Rows.below hm hbx; clear hbx o; have o := hF.own; simp only [World.size_alloc, World.size_drew, World.size_setCell, List.mem_cons, List.not_mem_nil, or_false, forall_eq_or_imp, forall_eq, At, and_true, Nat.zero_add, Nat.reduceAdd, List.set_cons_zero, List.set_cons_succ] at o) | (go_at_call 57; go_must (refine (iPathOk_any _ P a _ hp hE).mono ?_); rintro e wx ⟨rfl, hbx⟩; replace hF := hF.below hbx; (try replace hE := hE.below hbx); replace hp := Rows.below hp hbx; replace hm := Rows.below hm hbx; clear hbx o; have o := hF.own; simp only [World.size_alloc, World.size_drew, World.size_setCell, List.mem_cons, List.not_mem_nil, or_false, forall_eq_or_imp, forall_eq, At, and_true, Nat.zero_add, Nat.reduceAdd, List.set_cons_zero, List.set_cons_succ] at o) | (go_at_call 58; go_must (refine (iMarks_any _ M _ hm).mono ?_); rintro e wx ⟨rfl, hbx⟩; replace hF := hF.below hbx; (try replace hE := hE.below hbx); replace hp := Rows.below hp hbx; replace hm := Rows.below hm hbx; clear hbx o; have o := hF.own; simp only [World.size_alloc, World.size_drew, World.size_setCell, List.mem_cons, List.not_mem_nil, or_false, forall_eq_or_imp, forall_eq, At, and_true, Nat.zero_add, Nat.reduceAdd, List.set_cons_zero, List.set_cons_succ] at o))
    go_ret
    exact ⟨by rw [hr.out]; rfl, hF.kp⟩
set_option maxHeartbeats 2000000 in
theorem sRouteOk_any (f b lk : Int) (pv mv : Value) (P M : List Int) (w : World) (hp : Ints w pv P) (hm : Ints w mv M) :
    Calls Tryd.prog 38 #[.agg #[.int .i64 f, .int .i64 b, pv, .int .i64 lk, mv]] w fun e w' => e = .returned (.bool (decide (RtOk f b P lk M))) ∧ Below w.heap.size w w' := by
  obtain ⟨ao, c1, rfl, -⟩ := hp.ex
  obtain ⟨ao2, c2, rfl, -⟩ := hm.ex
  obtain ⟨n, hn⟩ : ∃ n, Hid (P.length = n) := ⟨_, rfl⟩
  obtain ⟨m, hmn⟩ : ∃ m, Hid (M.length = m) := ⟨_, rfl⟩
  rw [hn.out] at hp ⊢
  rw [hmn.out] at hm ⊢
  have hF := (Fb.start w).alloc [.int .i64 f, .int .i64 b, .slice ao n c1, .int .i64 lk, .slice ao2 m c2] 27
  have hb0 := (Below.refl w.heap.size w).alloc (Nat.le_refl _) (.cells #[.int .i64 f, .int .i64 b, .slice ao n c1, .int .i64 lk, .slice ao2 m c2] 27)
  replace hp := Rows.below hp hb0
  replace hm := Rows.below hm hb0
  clear hb0
  have o := hF.own; simp only [World.size_alloc, World.size_drew, World.size_setCell, List.mem_cons, List.not_mem_nil, or_false, forall_eq_or_imp, forall_eq, At, and_true, Nat.zero_add, Nat.reduceAdd, List.set_cons_zero, List.set_cons_succ] at o
  go_enter Tryd.func38, Tryd.ntmps38
  by_cases h1 : ROk f b
  · have d1 : decide (ROk f b) = true := by simp [h1]
    by_cases h3 : POk P
    · have d3 : decide (POk P) = true := by simp [h3]
      by_cases h2 : 0 < n
      · have d2 : (0 : Int) < n := by omega
        by_cases h4 : Bts lk 0 9
        · have d4 : decide (Bts lk 0 9) = true := by simp [h4]
          have hr : Hid (decide (RtOk f b P lk M) = decide (MOk M)) := decide_eq_decide.2 ⟨fun g => g.2.2.2.2, fun g => ⟨h1, by rw [hn.out]; exact h2, h3, h4, g⟩⟩
          clear h1 h2 h3 h4
          go_wp2_with (first | (go_at_call 77; go_must (refine (sRangeOk_any _ _ _).mono ?_); rintro e wx ⟨rfl, hbx⟩; replace hF := hF.below hbx; (try replace hE := hE.below hbx); replace hp := Rows.below hp hbx; replace hm := Rows.below hm hbx; clear hbx o; have o := hF.own; simp only [World.size_alloc, World.size_drew, World.size_setCell, List.mem_cons, List.not_mem_nil, or_false, forall_eq_or_imp, forall_eq, At, and_true, Nat.zero_add, Nat.reduceAdd, List.set_cons_zero, List.set_cons_succ] at o) | (go_at_call 78; go_must (refine (sPathOk_any _ P _ hp).mono ?_); rintro e wx ⟨rfl, hbx⟩; replace hF := hF.below hbx; (try replace hE := hE.below hbx); replace hp := Rows.below hp hbx; replace hm := Rows.below hm hbx; clear hbx o; have o := hF.own; simp only [World.size_alloc, World.size_drew, World.size_setCell, List.mem_cons, List.not_mem_nil, or_false, forall_eq_or_imp, forall_eq, At, and_true, Nat.zero_add, Nat.reduceAdd, List.set_cons_zero, List.set_cons_succ] at o) | (go_at_call 39; go_must (refine (l6In_any _ _ _ _).mono ?_); rintro e wx ⟨rfl, hbx⟩; replace hF := hF.below hbx; (try replace hE := hE.below hbx); replace hp := Rows.below hp hbx; replace hm := Rows.below hm hbx; clear hbx o; have o := hF.own; simp only [World.size_alloc, World.size_drew, World.size_setCell, List.mem_cons, List.not_mem_nil, or_false, forall_eq_or_imp, forall_eq, At, and_true, Nat.zero_add, Nat.reduceAdd, List.set_cons_zero, List.set_cons_succ] at o) | (go_at_call 79; go_must (refine (sMarks_any _ M _ hm).mono ?_); rintro e wx ⟨rfl, hbx⟩; replace hF := hF.below hbx; (try replace hE := hE.below hbx); replace hp := Rows.below hp hbx; replace hm := Rows.below hm hbx; clear hbx o; have o := hF.own; simp only [World.size_alloc, World.size_drew, World.size_setCell, List.mem_cons, List.not_mem_nil, or_false, forall_eq_or_imp, forall_eq, At, and_true, Nat.zero_add, Nat.reduceAdd, List.set_cons_zero, List.set_cons_succ] at o))
          go_ret
          exact ⟨by rw [hr.out]; rfl, hF.kp⟩
        · have d4 : decide (Bts lk 0 9) = false := by simp [h4]
          have hr : Hid (decide (RtOk f b P lk M) = false) := decide_eq_false fun g => h4 g.2.2.2.1
          clear h1 h2 h3 h4
          go_wp2_with (first | (go_at_call 77; go_must (refine (sRangeOk_any _ _ _).mono ?_); rintro e wx ⟨rfl, hbx⟩; replace hF := hF.below hbx; (try replace hE := hE.below hbx); replace hp := Rows.below hp hbx; replace hm := Rows.below hm hbx; clear hbx o; have o := hF.own; simp only [World.size_alloc, World.size_drew, World.size_setCell, List.mem_cons, List.not_mem_nil, or_false, forall_eq_or_imp, forall_eq, At, and_true, Nat.zero_add, Nat.reduceAdd, List.set_cons_zero, List.set_cons_succ] at o) | (go_at_call 78; go_must (refine (sPathOk_any _ P _ hp).mono ?_); rintro e wx ⟨rfl, hbx⟩; replace hF := hF.below hbx; (try replace hE := hE.below hbx); replace hp := Rows.below hp hbx; replace hm := Rows.below hm hbx; clear hbx o; have o := hF.own; simp only [World.size_alloc, World.size_drew, World.size_setCell, List.mem_cons, List.not_mem_nil, or_false, forall_eq_or_imp, forall_eq, At, and_true, Nat.zero_add, Nat.reduceAdd, List.set_cons_zero, List.set_cons_succ] at o) | (go_at_call 39; go_must (refine (l6In_any _ _ _ _).mono ?_); rintro e wx ⟨rfl, hbx⟩; replace hF := hF.below hbx; (try replace hE := hE.below hbx); replace hp := Rows.below hp hbx; replace hm := Rows.below hm hbx; clear hbx o; have o := hF.own; simp only [World.size_alloc, World.size_drew, World.size_setCell, List.mem_cons, List.not_mem_nil, or_false, forall_eq_or_imp, forall_eq, At, and_true, Nat.zero_add, Nat.reduceAdd, List.set_cons_zero, List.set_cons_succ] at o) | (go_at_call 79; go_must (refine (sMarks_any _ M _ hm).mono ?_); rintro e wx ⟨rfl, hbx⟩; replace hF := hF.below hbx; (try replace hE := hE.below hbx); replace hp := Rows.below hp hbx; replace hm := Rows.below hm hbx; clear hbx o; have o := hF.own; simp only [World.size_alloc, World.size_drew, World.size_setCell, List.mem_cons, List.not_mem_nil, or_false, forall_eq_or_imp, forall_eq, At, and_true, Nat.zero_add, Nat.reduceAdd, List.set_cons_zero, List.set_cons_succ] at o))
          go_ret
          exact ⟨by rw [hr.out]; rfl, hF.kp⟩
      · have d2 : ¬ (0 : Int) < n := by omega
        have hr : Hid (decide (RtOk f b P lk M) = false) := decide_eq_false fun g => h2 (by have := g.2.1; rwa [hn.out] at this)
        clear h1 h2 h3
        go_wp2_with (first | (go_at_call 77; go_must (refine (sRangeOk_any _ _ _).mono ?_); rintro e wx ⟨rfl, hbx⟩; replace hF := hF.below hbx; (try replace hE := hE.below hbx); replace hp := Rows.below hp hbx; replace hm := Rows.below hm hbx; clear hbx o; have o := hF.own; simp only [World.size_alloc, World.size_drew, World.size_setCell, List.mem_cons, List.not_mem_nil, or_false, forall_eq_or_imp, forall_eq, At, and_true, Nat.zero_add, Nat.reduceAdd, List.set_cons_zero, List.set_cons_succ] at o) | (go_at_call 78; go_must (refine (sPathOk_any _ P _ hp).mono ?_); rintro e wx ⟨rfl, hbx⟩; replace hF := hF.below hbx; (try replace hE := hE.below hbx); replace hp := Rows.below hp hbx; replace hm := Rows.below hm hbx; clear hbx o; have o := hF.own; simp only [World.size_alloc, World.size_drew, World.size_setCell, List.mem_cons, List.not_mem_nil, or_false, forall_eq_or_imp, forall_eq, At, and_true, Nat.zero_add, Nat.reduceAdd, List.set_cons_zero, List.set_cons_succ] at o) | (go_at_call 39; go_must (refine (l6In_any _ _ _ _).mono ?_); rintro e wx ⟨rfl, hbx⟩; replace hF := hF.below hbx; (try replace hE := hE.below hbx); replace hp := Rows.below hp hbx; replace hm := Rows.below hm hbx; clear hbx o; have o := hF.own; simp only [World.size_alloc, World.size_drew, World.size_setCell, List.mem_cons, List.not_mem_nil, or_false, forall_eq_or_imp, forall_eq, At, and_true, Nat.zero_add, Nat.reduceAdd, List.set_cons_zero, List.set_cons_succ] at o) | (go_at_call 79; go_must (refine (sMarks_any _ M _ hm).mono ?_); rintro e wx ⟨rfl, hbx⟩; replace hF := hF.below hbx; (try replace hE := hE.below hbx); replace hp := Rows.below hp hbx; replace hm := Rows.below hm hbx; clear hbx o; have o := hF.own; simp only [World.size_alloc, World.size_drew, World.size_setCell, List.mem_cons, List.not_mem_nil, or_false, forall_eq_or_imp, forall_eq, At, and_true, Nat.zero_add, Nat.reduceAdd, List.set_cons_zero, List.set_cons_succ] at o))
        go_ret
        exact ⟨by rw [hr.out]; rfl, hF.kp⟩
    · have d3 : decide (POk P) = false := by simp [h3]
      have hr : Hid (decide (RtOk f b P lk M) = false) := decide_eq_false fun g => h3 g.2.2.1
      clear h1 h3
      go_wp2_with (first | (go_at_call 77; go_must (refine (sRangeOk_any _ _ _).mono ?_); rintro e wx ⟨rfl, hbx⟩; replace hF := hF.below hbx; (try replace hE := hE.below hbx); replace hp := Rows.below hp hbx; replace hm := Rows.below hm hbx; clear hbx o; have o := hF.own; simp only [World.size_alloc, World.size_drew, World.size_setCell, List.mem_cons, List.not_mem_nil, or_false, forall_eq_or_imp, forall_eq, At, and_true, Nat.zero_add, Nat.reduceAdd, List.set_cons_zero, List.set_cons_succ] at o) | (go_at_call 78; go_must (refine (sPathOk_any _ P _ hp).mono ?_); rintro e wx ⟨rfl, hbx⟩; replace hF := hF.below hbx; (try replace hE := hE.below hbx); replace hp := Rows.below hp hbx; replace hm := Rows.below hm hbx; clear hbx o; have o := hF.own; simp only [World.size_alloc, World.size_drew, World.size_setCell, List.mem_cons, List.not_mem_nil, or_false, forall_eq_or_imp, forall_eq, At, and_true, Nat.zero_add, Nat.reduceAdd, List.set_cons_zero, List.set_cons_succ] at o) | (go_at_call 39; go_must (refine (l6In_any _ _ _ _).mono ?_); rintro e wx ⟨rfl, hbx⟩; replace hF := hF.below hbx; (try replace hE := hE.below hbx); replace hp := Rows.below hp hbx; replace hm := Rows.below hm hbx; clear hbx o; have o := hF.own; simp only [World.size_alloc, World.size_drew, World.size_setCell, List.mem_cons, List.not_mem_nil, or_false, forall_eq_or_imp, forall_eq, At, and_true, Nat.zero_add, Nat.reduceAdd, List.set_cons_zero, List.set_cons_succ] at o) | (go_at_call 79; go_must (refine (sMarks_any _ M _ hm).mono ?_); rintro e wx ⟨rfl, hbx⟩; replace hF := hF.below hbx; (try replace hE := hE.below hbx); replace hp := Rows.below hp hbx; replace hm := Rows.below hm hbx; clear hbx o; have o := hF.own; simp only [World.size_alloc, World.size_drew, World.size_setCell, List.mem_cons, List.not_mem_nil, or_false, forall_eq_or_imp, forall_eq, At, and_true, Nat.zero_add, Nat.reduceAdd, List.set_cons_zero, List.set_cons_succ] at o))
      go_ret
      exact ⟨by rw [hr.out]; rfl, hF.kp⟩
  · have d1 : decide (ROk f b) = false := by simp [h1]
    have hr : Hid (decide (RtOk f b P lk M) = false) := decide_eq_false fun g => h1 g.1
    clear h1
    go_wp2_with (first | (go_at_call 77; go_must (refine (sRangeOk_any _ _ _).mono ?_); rintro e wx ⟨rfl, hbx⟩; replace hF := hF.below hbx; (try replace hE := hE.below hbx); replace hp := Rows.below hp hbx; replace hm := Rows.below hm hbx; clear hbx o; have o := hF.own; simp only [World.size_alloc, World.size_drew, World.size_setCell, List.mem_cons, List.not_mem_nil, or_false, forall_eq_or_imp, forall_eq, At, and_true, Nat.zero_add, Nat.reduceAdd, List.set_cons_zero, List.set_cons_succ] at o) | (go_at_call 78; go_must (refine (sPathOk_any _ P _ hp).mono ?_); rintro e wx ⟨rfl, hbx⟩; replace hF := hF.below hbx; (try replace hE := hE.below hbx); replace hp := Rows.below hp hbx; replace hm := Rows.below hm hbx; clear hbx o; have o := hF.own; simp only [World.size_alloc, World.size_drew, World.size_setCell, List.mem_cons, List.not_mem_nil, or_false, forall_eq_or_imp, forall_eq, At, and_true, Nat.zero_add, Nat.reduceAdd, List.set_cons_zero, List.set_cons_succ] at o) | (go_at_call 39; go_must (refine (l6In_any _ _ _ _).mono ?_); rintro e wx ⟨rfl, hbx⟩; replace hF := hF.below hbx; (try replace hE := hE.below hbx); replace hp := Rows.below hp hbx; replace hm := Rows.below hm hbx; clear hbx o; have o := hF.own; simp only [World.size_alloc, World.size_drew, World.size_setCell, List.mem_cons, List.not_mem_nil, or_false, forall_eq_or_imp, forall_eq, At, and_true, Nat.zero_add, Nat.reduceAdd, List.set_cons_zero, List.set_cons_succ] at o) | (go_at_call 79; go_must (refine (sMarks_any _ M _ hm).mono ?_); rintro e wx ⟨rfl, hbx⟩; replace hF := hF.below hbx; (try replace hE := hE.below hbx); replace hp := Rows.below hp hbx; replace hm := Rows.below hm hbx; clear hbx o; have o := hF.own; simp only [World.size_alloc, World.size_drew, World.size_setCell, List.mem_cons, List.not_mem_nil, or_false, forall_eq_or_imp, forall_eq, At, and_true, Nat.zero_add, Nat.reduceAdd, List.set_cons_zero, List.set_cons_succ] at o))
    go_ret
    exact ⟨by rw [hr.out]; rfl, hF.kp⟩
end Go.Proofs.YtonojegnbcgnaaaDoor
set_option linter.unusedSimpArgs false
set_option linter.unusedVariables false
namespace Go.Proofs.YtonojegnbcgnaaaDoor
open Go Go.RowKit

section
variable {P : Program} {ops : Array Oper} {md : Region.Mode} {C : World → Prop}

/-- Whatever order the head's operations come up in, each has its one value, and L holds behind them. -/
def HeadQ (P : Program) (md : Region.Mode) (ops : Array Oper) (C : World → Prop) (n : Nat) (L : Array Bool → Act → Prop) : Nat → Array Bool → Act → Prop
  | 0, ls, a => L ls a
  | f + 1, ls, a => Region.ready md ops ls ≠ [] ∧ ∀ i ∈ Region.ready md ops ls, i < n ∧ qOp P ops C i (HeadQ P md ops C n L f (ls.setIfInBounds i true)) a

theorem HeadQ.any {n g : Nat} {L : Array Bool → Act → Prop} {Q : Exit → Act → World → Prop} (hL : ∀ ls a w, C w → L ls a → wpAny P md ops Q g ls a w) :
    ∀ f ls a w, C w → HeadQ P md ops C n L f ls a → wpAny P md ops Q (f + g) ls a w
  | 0, ls, a, w, hw, h => by rw [Nat.zero_add]; exact hL ls a w hw h
  | f + 1, ls, a, w, hw, ⟨h1, h2⟩ => by
    rw [Nat.add_right_comm]
    refine ⟨fun e => absurd e h1, fun i hi => ?_⟩
    exact wpOp_of_qOp hw (fun a' w' hw' k => HeadQ.any hL f _ a' w' hw' k) (h2 i hi).2

/-- One of the head that is ready, and apart from all that does not wait for it, may as well come first. -/
theorem HeadQ.first {n i : Nat} {o : Oper} {v : Value} {L : Array Bool → Act → Prop} (ho : ops[i]? = some o) (hsel : ∀ (j : Nat) (o : Oper) cs b, ops[j]? = some o → o.op ≠ .select cs b)
    (hs : Region.sinkB md ops n = true) (hc : Region.chainB md ops n = true) (hn : n < ops.size) (hin : i < n) (hend : ∀ ls a, L ls a → ∀ j ∈ Region.ready md ops ls, n ≤ j) :
    ∀ f ls a, HeadInv md ops n ls → (∀ j oj, ops[j]? = some oj → j ≠ i → ls.getD j true = false → (∀ e ∈ oj.after, Region.binds md e = true → e.on ≠ i) → o.apart ops oj = true) →
      i ∈ Region.ready md ops ls → YieldsIn P ops C o v a → HeadQ P md ops C n L f (ls.setIfInBounds i true) (a.put o.dst v) → HeadQ P md ops C n L (f + 1) ls a := by
  intro f
  induction f with
  | zero =>
    intro ls a inv _ hi hy k
    have hnot : ∀ j ∈ Region.ready md ops ls, j < n := fun j hj => Classical.byContradiction fun g => tail_waits hs hc hn inv _ i rfl hin (mem_ready.1 hi).1 j (by omega) hj
    refine ⟨fun e => (by rw [e] at hi; cases hi), fun j hj => ⟨hnot j hj, ?_⟩⟩
    by_cases e : j = i
    · subst e; exact hy.qOp ho k
    · have h1 := hend _ _ k j (ready_mono hj e)
      have h2 := hnot j hj
      omega
  | succ f ih =>
    intro ls a inv hap hi hy k
    have hnot : ∀ j ∈ Region.ready md ops ls, j < n := fun j hj => Classical.byContradiction fun g => tail_waits hs hc hn inv _ i rfl hin (mem_ready.1 hi).1 j (by omega) hj
    refine ⟨fun e => (by rw [e] at hi; cases hi), fun j hj => ⟨hnot j hj, ?_⟩⟩
    by_cases e : j = i
    · subst e; exact hy.qOp ho k
    · obtain ⟨hju, oj, hoj, haft⟩ := mem_ready.1 hj
      have hfree : ∀ x ∈ oj.after, Region.binds md x = true → x.on ≠ i := fun x hx hb q => by
        have := haft x hx hb
        rw [q, getD_both (mem_ready.1 hi).1] at this
        cases this
      have hq := qOp_put hoj (hap j oj hoj e hju hfree) (fun cs b => hsel i o cs b ho) (fun cs b => hsel j oj cs b hoj) hy (k.2 j (ready_mono hj e)).2
      refine qOp_mono (fun a' ha' => ih (ls.setIfInBounds j true) a' (inv.set hj (hnot j hj)) (fun m om hm hmi hmu hno => hap m om hm hmi ?_ hno) (ready_mono hi (Ne.symm e)) ha'.1 ?_) hq
      · by_cases q : j = m
        · subst q; exact hju
        · rwa [getD_set_ne true q] at hmu
      · rw [Array.setIfInBounds_comm _ _ e]
        exact ha'.2

theorem HeadQ.lex {n g : Nat} {K : Act → Prop} (hsel : Region.noSelect ops = true) (hs : Region.sinkB md ops n = true) (hc : Region.chainB md ops n = true) (hn : n < ops.size) :
    ∀ (l : List Oper) (k : Nat) (ls : Array Bool) (a : Act), (∀ j, j < l.length → l[j]? = ops[k + j]?) → k + l.length = n → HeadInv md ops n ls → Region.lexHead md ops g l.length k ls = true →
      wpQuiet P ops C K l a → HeadQ P md ops C n (fun ls a => Region.seqB md ops g n ls = true ∧ K a) l.length ls a
  | [], k, ls, a, _, hk, _, hB, h => by
    obtain rfl : k = n := by simpa using hk
    exact ⟨by simpa [Region.lexHead] using hB, h⟩
  | o :: l, k, ls, a, hl, hk, inv, hB, h => by
    have ho : ops[k]? = some o := by simpa using (hl 0 (by simp)).symm
    simp only [List.length_cons, Region.lexHead, Bool.and_eq_true] at hB hk
    have hr : k ∈ Region.ready md ops ls := by simpa using hB.1.1
    have hq : qOp P ops C k (wpQuiet P ops C K l) a := by unfold qOp; simp only [ho]; exact h
    obtain ⟨v, hy, hK⟩ := yieldsIn_of_qOp ho hq
    refine HeadQ.first ho (Region.noSelect_spec hsel) hs hc hn (by omega) (fun ls a hL => seqB_ready hL.1) l.length ls a inv (Region.free_spec ho hB.1.2) hr hy ?_
    exact HeadQ.lex hsel hs hc hn l (k + 1) _ _ (fun j hj => by have := hl (j + 1) (by simp; omega); simpa [Nat.add_assoc, Nat.add_comm 1 j] using this) (by omega) (inv.set hr (by omega)) hB.2 hK
end

/-- The region. -/
theorem wp_region_tail {P : Program} {id : Nat} {Q : Exit → Act → World → Prop} {a : Act} {w : World} {l : List Oper} (n : Nat) (hm : P.follows .mixedOrders = true) (hB : Region.lexTailB .any l.toArray n = true)
    (h : wpQuiet P l.toArray (fun w' => ∃ x : Cl w.heap.size w, w' = x.W) (fun a' => ∀ x : Cl w.heap.size w, wpList P l.toArray Q (l.drop n) a' x.W) (l.take n) a) : (Code.region id l.toArray true).wp P Q a w := by
  simp only [Region.lexTailB, Bool.and_eq_true, decide_eq_true_eq] at hB
  obtain ⟨⟨⟨⟨hsel, hn⟩, hs⟩, hc⟩, hlex⟩ := hB
  have hnl : n < l.length := by simpa using hn
  have e1 : (l.take n).length = n := by simp; omega
  have e2 : (l.drop n).length = l.toArray.size - n := by simp
  have inv0 : HeadInv .any l.toArray n (Array.replicate l.toArray.size false) :=
    ⟨by simp, fun j oj _ hl => (by rw [getD_replicate_false] at hl; cases hl), fun t _ ht => getD_in (by simpa using ht) (getD_replicate_false _ _)⟩
  have H := HeadQ.lex (md := .any) (g := l.toArray.size - n) hsel hs hc hn (l.take n) 0 _ a (fun j hj => by rw [e1] at hj; simp [hj]) (by rw [e1, Nat.zero_add]) inv0 (by rw [e1]; exact hlex) h
  refine wp_region_any hm ?_
  have key := HeadQ.any (Q := Q) (g := l.toArray.size - n) (fun ls a' w' hw' hL => by
    obtain ⟨x, rfl⟩ := hw'
    have := wpAny_of_seq (md := .any) (Q' := Q) (l.drop n) n ls a' x.W (fun j => by simp [List.getElem?_drop]) (by rw [e2]; exact hL.1) (hL.2 x)
    rwa [e2] at this) _ _ _ w.drew ⟨⟨w.drew, (Below.refl _ _).drew⟩, rfl⟩ H
  rw [e1, show n + (l.toArray.size - n) = l.toArray.size by omega] at key
  exact key
end Go.Proofs.YtonojegnbcgnaaaDoor
set_option linter.unusedSimpArgs false
set_option linter.unusedVariables false
namespace Go.Proofs.YtonojegnbcgnaaaDoor
open Go.RowKit

/-- Which of two routes is better. -/
def rtc (f b lk : Int) (P M : List Int) (g c lk2 : Int) (P2 M2 : List Int) : Int := orz (icmp lk2 lk) (orz (PC P P2) (orz (RC f b g c) (orz (icmp (M.length : Int) (M2.length : Int)) (lex M M2))))
def RT (f b lk : Int) (P M : List Int) (g c lk2 : Int) (P2 M2 : List Int) : Int := if RtOk f b P lk M ∧ RtOk g c P2 lk2 M2 then rtc f b lk P M g c lk2 P2 M2 else 0
theorem compareB (a b : Int) (w : World) : Calls Tryd.prog 52 #[.int .i64 a, .int .i64 b] w fun e w' => e = .returned (.int .i64 (icmp a b)) ∧ Below w.heap.size w w' :=
  (compare_any a b w).mono fun _ _ ⟨h, e⟩ => ⟨h, by rw [← e]; exact Below.refl _ _⟩
theorem orI5 (a b c d e : Int) : orI [a, b, c, d, e] = orz a (orz b (orz c (orz d e))) := by
  simp only [orI_cons, orI_nil, orz]
  by_cases h1 : a = 0 <;> by_cases h2 : b = 0 <;> by_cases h3 : c = 0 <;> by_cases h4 : d = 0 <;> by_cases h5 : e = 0 <;> simp [h1, h2, h3, h4, h5]
theorem or_five (a b c d e : Int) (w : World) :
    Calls Tryd.prog 51 #[.slice (some ⟨w.heap.size, 0, none⟩) 5 5] (w.alloc (.cells #[.int .i64 a, .int .i64 b, .int .i64 c, .int .i64 d, .int .i64 e] 3)) fun x w' => x = .returned (.int .i64 (orz a (orz b (orz c (orz d e))))) ∧ w' = w.alloc (.cells #[.int .i64 a, .int .i64 b, .int .i64 c, .int .i64 d, .int .i64 e] 3) := by
  refine (or_any w.heap.size 0 5 [a, b, c, d, e] _ ?_ (by simp)).mono ?_
  · intro i hi
    match i, hi with
    | 0, _ => simp
    | 1, _ => simp
    | 2, _ => simp
    | 3, _ => simp
    | 4, _ => simp
  · rintro x w' ⟨rfl, rfl⟩
    rw [orI5]; exact ⟨rfl, rfl⟩
set_option maxHeartbeats 4000000 in
theorem iRouteCmp_any (f b lk : Int) (pv mv : Value) (P M : List Int) (g c lk2 : Int) (pv2 mv2 : Value) (P2 M2 : List Int) (a : Addr) (w : World) (hp : Ints w pv P) (hm : Ints w mv M) (hp2 : Ints w pv2 P2) (hm2 : Ints w mv2 M2) (hE : EPath w a) :
    Calls Tryd.prog 18 #[.agg #[.int .i64 f, .int .i64 b, pv, .int .i64 lk, mv], .agg #[.int .i64 g, .int .i64 c, pv2, .int .i64 lk2, mv2]] w fun e w' => e = .returned (.int .i64 (RT f b lk P M g c lk2 P2 M2)) ∧ Below w.heap.size w w' := by
  have HE := Lib.hid hE
  have HP := Lib.hid hp
  have HM := Lib.hid hm
  have HP2 := Lib.hid hp2
  have HM2 := Lib.hid hm2
  obtain ⟨o1, c1, rfl, -⟩ := hp.ex
  obtain ⟨o2, c2, rfl, -⟩ := hm.ex
  obtain ⟨o3, c3, rfl, -⟩ := hp2.ex
  obtain ⟨o4, c4, rfl, -⟩ := hm2.ex
  clear hp hm hp2 hm2 hE
  have hF := ((Fb.start w).alloc [.int .i64 f, .int .i64 b, .slice o1 P.length c1, .int .i64 lk, .slice o2 M.length c2] 27).alloc [.int .i64 g, .int .i64 c, .slice o3 P2.length c3, .int .i64 lk2, .slice o4 M2.length c4] 27
  simp only [World.size_alloc] at hF
  have o := hF.own; simp only [World.size_alloc, World.size_drew, World.size_setCell, List.mem_cons, List.not_mem_nil, or_false, forall_eq_or_imp, forall_eq, At, and_true, Nat.zero_add, Nat.reduceAdd, List.set_cons_zero, List.set_cons_succ] at o
  go_enter Tryd.func18, Tryd.ntmps18
  go_wp2_with fail
  refine (iRouteOk_any f b lk _ _ P M a _ (Rows.below HP.out hF.kp) (Rows.below HM.out hF.kp) (HE.out.below hF.kp)).mono ?_; rintro e w1 ⟨rfl, hb1⟩
  replace hF := hF.below hb1
  clear hb1 o
  have o := hF.own; simp only [World.size_alloc, World.size_drew, World.size_setCell, List.mem_cons, List.not_mem_nil, or_false, forall_eq_or_imp, forall_eq, At, and_true, Nat.zero_add, Nat.reduceAdd, List.set_cons_zero, List.set_cons_succ] at o
  by_cases k1 : RtOk f b P lk M
  · have d1 : decide (RtOk f b P lk M) = true := by simp [k1]
    go_wp2_with fail
    refine (iRouteOk_any g c lk2 _ _ P2 M2 a _ (Rows.below HP2.out hF.kp) (Rows.below HM2.out hF.kp) (HE.out.below hF.kp)).mono ?_; rintro e w2 ⟨rfl, hb1⟩
    replace hF := hF.below hb1
    clear hb1 o
    by_cases k2 : RtOk g c P2 lk2 M2
    · have d2 : decide (RtOk g c P2 lk2 M2) = true := by simp [k2]
      have hr : Hid (RT f b lk P M g c lk2 P2 M2 = rtc f b lk P M g c lk2 P2 M2) := if_pos ⟨k1, k2⟩
      clear k1 k2
      go_wp2
      have oc := fun x : Cl _ w2 => (Fb.cl hF x).own; simp only [World.size_alloc, World.size_drew, World.size_setCell, List.mem_cons, List.not_mem_nil, or_false, forall_eq_or_imp, forall_eq, At, and_true, Nat.zero_add, Nat.reduceAdd, List.set_cons_zero, List.set_cons_succ] at oc
      have c5 := Lib.hid (fun x : Cl w2.heap.size w2 => (show Ints x.W _ P ∧ Ints x.W _ M ∧ Ints x.W _ P2 ∧ Ints x.W _ M2 ∧ EPath x.W a from ⟨Rows.below HP.out (hF.cl x).kp, Rows.below HM.out (hF.cl x).kp, Rows.below HP2.out (hF.cl x).kp, Rows.below HM2.out (hF.cl x).kp, HE.out.below (hF.cl x).kp⟩))
      refine wp_region_tail 27 (by kernel_rfl) (by kernel_rfl) ?_
      simp only [List.take_succ_cons, List.take_zero, List.drop_succ_cons, List.drop_zero]
      repeat (any_goals (first | go_big_quiet_step ((first | (go_at_call 52; exact Calls.cl (compareB _ _ _)) | (go_at_call 53; exact Calls.cl (iPathCmp_any _ _ P P2 a _ (c5.out _).1 (c5.out _).2.2.1 (c5.out _).2.2.2.2)) | (go_at_call 54; exact Calls.cl (iRangeCmp_any _ _ _ _ _)) | (go_at_call 55; exact Calls.cl (Compare_any _ _ M M2 _ (c5.out _).2.1 (c5.out _).2.2.2.1)))) | (refine wpQuiet_step (fun K hK => ?_); go_simp; split <;> (rename_i hg; refine hK _ ?_; clear hK K; simp only [hg, decide_true, decide_false]))))
      all_goals (refine wpQuiet_nil ?_; intro x)
      go_wp2_with (go_at_call 51; refine (or_five _ _ _ _ _ _).mono ?_; rintro e w' ⟨rfl, rfl⟩)
      go_ret
      exact ⟨by rw [hr.out]; rfl, ((hF.cl x).other _).kp⟩
    · have d2 : decide (RtOk g c P2 lk2 M2) = false := by simp [k2]
      have hr : Hid (RT f b lk P M g c lk2 P2 M2 = 0) := if_neg fun q => k2 q.2
      clear k1 k2
      go_wp2_with fail
      go_ret
      exact ⟨by rw [hr.out]; rfl, hF.kp⟩
  · have d1 : decide (RtOk f b P lk M) = false := by simp [k1]
    have hr : Hid (RT f b lk P M g c lk2 P2 M2 = 0) := if_neg fun q => k1 q.1
    clear k1
    go_wp2_with fail
    go_ret
    exact ⟨by rw [hr.out]; rfl, hF.kp⟩
def rts (f b lk : Int) (P M : List Int) (g c lk2 : Int) (P2 M2 : List Int) : Int := orz (icmp lk2 lk) (orz (pcmp P P2) (orz (rcmp f b g c) (pcmp M M2)))
theorem rts_is {f b lk g c lk2 : Int} {P M P2 M2 : List Int} (h1 : RtOk f b P lk M) (h2 : RtOk g c P2 lk2 M2) : rts f b lk P M g c lk2 P2 M2 = rtc f b lk P M g c lk2 P2 M2 := by
  unfold rts rtc
  rw [show PC P P2 = pcmp P P2 from if_pos ⟨h1.2.2.1, h2.2.2.1⟩, show RC f b g c = rcmp f b g c from if_pos ⟨h1.1, h2.1⟩]
  rfl
set_option maxHeartbeats 4000000 in
theorem l4Cmp_any (f b lk : Int) (pv mv : Value) (P M : List Int) (g c lk2 : Int) (pv2 mv2 : Value) (P2 M2 : List Int) (w : World) (hp : Ints w pv P) (hm : Ints w mv M) (hp2 : Ints w pv2 P2) (hm2 : Ints w mv2 M2) :
    Calls Tryd.prog 87 #[.agg #[.int .i64 f, .int .i64 b, pv, .int .i64 lk, mv], .agg #[.int .i64 g, .int .i64 c, pv2, .int .i64 lk2, mv2]] w fun e w' => e = .returned (.int .i64 (rts f b lk P M g c lk2 P2 M2)) ∧ Below w.heap.size w w' := by
  obtain ⟨o1, c1, rfl, -⟩ := hp.ex
  obtain ⟨o2, c2, rfl, -⟩ := hm.ex
  obtain ⟨o3, c3, rfl, -⟩ := hp2.ex
  obtain ⟨o4, c4, rfl, -⟩ := hm2.ex
  have hF := ((Fb.start w).alloc [.int .i64 f, .int .i64 b, .slice o1 P.length c1, .int .i64 lk, .slice o2 M.length c2] 27).alloc [.int .i64 g, .int .i64 c, .slice o3 P2.length c3, .int .i64 lk2, .slice o4 M2.length c4] 27
  have hb0 := hF.kp
  simp only [World.size_alloc] at hF
  replace hp := Rows.below hp hb0
  replace hm := Rows.below hm hb0
  replace hp2 := Rows.below hp2 hb0
  replace hm2 := Rows.below hm2 hb0
  clear hb0
  have o := hF.own; simp only [World.size_alloc, World.size_drew, World.size_setCell, List.mem_cons, List.not_mem_nil, or_false, forall_eq_or_imp, forall_eq, At, and_true, Nat.zero_add, Nat.reduceAdd, List.set_cons_zero, List.set_cons_succ] at o
  go_enter Tryd.func87, Tryd.ntmps87
  by_cases hlk : lk = lk2
  · subst hlk
    have hr : Hid (rts f b lk P M g c lk P2 M2 = orz (pcmp P P2) (orz (rcmp f b g c) (pcmp M M2))) := by
      show _ = _; unfold rts; rw [show icmp lk lk = 0 by simp [icmp]]; rfl
    obtain ⟨z1, hz1⟩ : ∃ z, pcmp P P2 = z := ⟨_, rfl⟩
    obtain ⟨z2, hz2⟩ : ∃ z, rcmp f b g c = z := ⟨_, rfl⟩
    rw [hz1, hz2] at hr
    have hnn : (lk != lk) = false := by simp
    by_cases e1 : z1 = 0
    · subst e1
      by_cases e2 : z2 = 0
      · subst e2
        have hr2 : Hid (rts f b lk P M g c lk P2 M2 = pcmp M M2) := hr.out
        have tok1 : True := trivial
        go_wp2_with (first | (go_at_call 108; clear tok1; go_must (refine (l3Cmp_any _ _ P P2 _ hp hp2).mono ?_); rintro e wx ⟨rfl, hbx⟩; replace hF := hF.below hbx; replace hm := Rows.below hm hbx; replace hm2 := Rows.below hm2 hbx; clear hbx o; have o := hF.own; simp only [World.size_alloc, World.size_drew, World.size_setCell, List.mem_cons, List.not_mem_nil, or_false, forall_eq_or_imp, forall_eq, At, and_true, Nat.zero_add, Nat.reduceAdd, List.set_cons_zero, List.set_cons_succ] at o) | (go_at_call 61; go_must (refine (l1Cmp_any _ _ _ _ _).mono ?_); rintro e wx ⟨rfl, hbx⟩; replace hF := hF.below hbx; replace hm := Rows.below hm hbx; replace hm2 := Rows.below hm2 hbx; clear hbx o; have o := hF.own; simp only [World.size_alloc, World.size_drew, World.size_setCell, List.mem_cons, List.not_mem_nil, or_false, forall_eq_or_imp, forall_eq, At, and_true, Nat.zero_add, Nat.reduceAdd, List.set_cons_zero, List.set_cons_succ] at o) | (go_at_call 108; go_must (refine (l3Cmp_any _ _ M M2 _ hm hm2).mono ?_); rintro e wx ⟨rfl, hbx⟩; replace hF := hF.below hbx; clear hbx))
        go_ret
        exact ⟨by rw [hr2.out]; rfl, hF.kp⟩
      · have hr2 : Hid (rts f b lk P M g c lk P2 M2 = z2) := hr.out.trans (by simp [orz, e2])
        have d2 : (z2 != 0) = true := by simp [e2]
        go_wp2_with (first | (go_at_call 108; go_must (refine (l3Cmp_any _ _ P P2 _ hp hp2).mono ?_); rintro e wx ⟨rfl, hbx⟩; replace hF := hF.below hbx; clear hbx o; have o := hF.own; simp only [World.size_alloc, World.size_drew, World.size_setCell, List.mem_cons, List.not_mem_nil, or_false, forall_eq_or_imp, forall_eq, At, and_true, Nat.zero_add, Nat.reduceAdd, List.set_cons_zero, List.set_cons_succ] at o) | (go_at_call 61; go_must (refine (l1Cmp_any _ _ _ _ _).mono ?_); rintro e wx ⟨rfl, hbx⟩; replace hF := hF.below hbx; clear hbx o; have o := hF.own; simp only [World.size_alloc, World.size_drew, World.size_setCell, List.mem_cons, List.not_mem_nil, or_false, forall_eq_or_imp, forall_eq, At, and_true, Nat.zero_add, Nat.reduceAdd, List.set_cons_zero, List.set_cons_succ] at o))
        go_ret
        exact ⟨by rw [hr2.out]; rfl, hF.kp⟩
    · have hr2 : Hid (rts f b lk P M g c lk P2 M2 = z1) := hr.out.trans (by simp [orz, e1])
      have d2 : (z1 != 0) = true := by simp [e1]
      go_wp2_with (first | (go_at_call 108; go_must (refine (l3Cmp_any _ _ P P2 _ hp hp2).mono ?_); rintro e wx ⟨rfl, hbx⟩; replace hF := hF.below hbx; clear hbx o; have o := hF.own; simp only [World.size_alloc, World.size_drew, World.size_setCell, List.mem_cons, List.not_mem_nil, or_false, forall_eq_or_imp, forall_eq, At, and_true, Nat.zero_add, Nat.reduceAdd, List.set_cons_zero, List.set_cons_succ] at o))
      go_ret
      exact ⟨by rw [hr2.out]; rfl, hF.kp⟩
  · have hnn : (lk != lk2) = true := by simp [hlk]
    by_cases hlt : lk2 < lk
    · have hr : Hid (rts f b lk P M g c lk2 P2 M2 = -1) := by
        show _ = _; unfold rts; rw [show icmp lk2 lk = -1 by unfold icmp; rw [if_pos hlt]]; rfl
      clear hlk
      go_wp2
      go_ret
      exact ⟨by rw [hr.out]; rfl, hF.kp⟩
    · have hr : Hid (rts f b lk P M g c lk2 P2 M2 = 1) := by
        show _ = _; unfold rts; rw [show icmp lk2 lk = 1 by unfold icmp; rw [if_neg hlt, if_pos (by omega)]]; rfl
      clear hlk
      go_wp2
      go_ret
      exact ⟨by rw [hr.out]; rfl, hF.kp⟩
end Go.Proofs.YtonojegnbcgnaaaDoor
