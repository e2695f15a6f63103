/- Is a route ok. Seals: slices of one's own that grow; slices.Clone of numbers; the seals that the program makes of a route. strconv.Itoa: the shelf's contract, laid at this dump in plain words. -/
import Derived.Test.YtiocomefkckbfaaDoorZ9
import Derived.Test.YtiocomefkckbfaaDoorZ4
import Derived.Test.YtiocomefkckbfaaDoorZ5
import Derived.Test.YtiocomefkckbfaaDoorZ7
import Derived.Test.YtiocomefkckbfaaDoorZ6
import Derived.Deep.RegionHeld3
import Derived.Test.YtiocomefkckbfaaDoorChecked
import Derived.Shelf.Strconv.Itoa3
import Derived.Lib.AppendIntMem
set_option linter.unusedSimpArgs false
set_option linter.unusedVariables false
namespace Go.Proofs.YtiocomefkckbfaaDoor
open Go.RowKit

def RtOk (f b : Int) (P : List Int) (lk : Int) (M : List Int) : Prop := ROk f b ∧ 0 < P.length ∧ POk P ∧ Bts lk 0 9 ∧ MOk M
instance (f b : Int) (P : List Int) (lk : Int) (M : List Int) : Decidable (RtOk f b P lk M) := by unfold RtOk; infer_instance
set_option maxHeartbeats 2000000 in
theorem iRouteOk_any (f b lk : Int) (pv mv : Value) (P M : List Int) (a : Addr) (w : World) (hp : Ints w pv P) (hm : Ints w mv M) (hE : EPath w a) :
    Calls Tryd.prog 38 #[.agg #[.int .i64 f, .int .i64 b, pv, .int .i64 lk, mv]] w fun e w' => e = .returned (.bool (decide (RtOk f b P lk M))) ∧ Below w.heap.size w w' := by
  obtain ⟨ao, c1, rfl, -⟩ := hp.ex
  obtain ⟨ao2, c2, rfl, -⟩ := hm.ex
  obtain ⟨n, hn⟩ : ∃ n, Hid (P.length = n) := ⟨_, rfl⟩
  obtain ⟨m, hmn⟩ : ∃ m, Hid (M.length = m) := ⟨_, rfl⟩
  rw [hn.out] at hp ⊢
  rw [hmn.out] at hm ⊢
  have hF := (Fb.start w).alloc [.int .i64 f, .int .i64 b, .slice ao n c1, .int .i64 lk, .slice ao2 m c2] 35
  have hb0 := (Below.refl w.heap.size w).alloc (Nat.le_refl _) (.cells #[.int .i64 f, .int .i64 b, .slice ao n c1, .int .i64 lk, .slice ao2 m c2] 35)
  replace hp := Rows.below hp hb0
  replace hm := Rows.below hm hb0
  replace hE := hE.below hb0
  clear hb0
  have o := hF.own; simp only [World.size_alloc, World.size_drew, World.size_setCell, List.mem_cons, List.not_mem_nil, or_false, forall_eq_or_imp, forall_eq, At, and_true, Nat.zero_add, Nat.reduceAdd, List.set_cons_zero, List.set_cons_succ] at o
  go_enter Tryd.func38, Tryd.ntmps38
  by_cases h1 : ROk f b
  · have d1 : decide (ROk f b) = true := by simp [h1]
    by_cases h2 : 0 < n
    · have d2 : (0 : Int) < n := by omega
      by_cases h3 : POk P
      · have d3 : decide (POk P) = true := by simp [h3]
        by_cases h4 : 0 ≤ lk
        · by_cases h5 : lk ≤ 9
          · have hr : Hid (decide (RtOk f b P lk M) = decide (MOk M)) := decide_eq_decide.2 ⟨fun g => g.2.2.2.2, fun g => ⟨h1, by rw [hn.out]; exact h2, h3, ⟨h4, h5⟩, g⟩⟩
            clear h1 h2 h3
            go_wp2_with (first | (go_at_call 45; go_must (refine (iRangeOk_any _ _ _).mono ?_); rintro e wx ⟨rfl, hbx⟩; replace hF := hF.below hbx; (try replace hE := hE.below hbx); replace hp := Rows.below hp hbx; replace hm := Rows.below hm hbx; clear hbx o; have o := hF.own; simp only [World.size_alloc, World.size_drew, World.size_setCell, List.mem_cons, List.not_mem_nil, or_false, forall_eq_or_imp, forall_eq, At, and_true, Nat.zero_add, Nat.reduceAdd, List.set_cons_zero, List.set_cons_succ] at o) | (go_at_call 62; go_must (refine (iPathOk_any _ P a _ hp hE).mono ?_); rintro e wx ⟨rfl, hbx⟩; replace hF := hF.below hbx; (try replace hE := hE.below hbx); replace hp := Rows.below hp hbx; replace hm := Rows.below hm hbx; clear hbx o; have o := hF.own; simp only [World.size_alloc, World.size_drew, World.size_setCell, List.mem_cons, List.not_mem_nil, or_false, forall_eq_or_imp, forall_eq, At, and_true, Nat.zero_add, Nat.reduceAdd, List.set_cons_zero, List.set_cons_succ] at o) | (go_at_call 63; go_must (refine (iMarks_any _ M _ hm).mono ?_); rintro e wx ⟨rfl, hbx⟩; replace hF := hF.below hbx; (try replace hE := hE.below hbx); replace hp := Rows.below hp hbx; replace hm := Rows.below hm hbx; clear hbx o; have o := hF.own; simp only [World.size_alloc, World.size_drew, World.size_setCell, List.mem_cons, List.not_mem_nil, or_false, forall_eq_or_imp, forall_eq, At, and_true, Nat.zero_add, Nat.reduceAdd, List.set_cons_zero, List.set_cons_succ] at o))
            go_ret
            exact ⟨by rw [hr.out]; rfl, hF.kp⟩
          · have hr : Hid (decide (RtOk f b P lk M) = false) := decide_eq_false fun g => h5 g.2.2.2.1.2
            clear h1 h2 h3
            go_wp2_with (first | (go_at_call 45; go_must (refine (iRangeOk_any _ _ _).mono ?_); rintro e wx ⟨rfl, hbx⟩; replace hF := hF.below hbx; (try replace hE := hE.below hbx); replace hp := Rows.below hp hbx; replace hm := Rows.below hm hbx; clear hbx o; have o := hF.own; simp only [World.size_alloc, World.size_drew, World.size_setCell, List.mem_cons, List.not_mem_nil, or_false, forall_eq_or_imp, forall_eq, At, and_true, Nat.zero_add, Nat.reduceAdd, List.set_cons_zero, List.set_cons_succ] at o) | (go_at_call 62; go_must (refine (iPathOk_any _ P a _ hp hE).mono ?_); rintro e wx ⟨rfl, hbx⟩; replace hF := hF.below hbx; (try replace hE := hE.below hbx); replace hp := Rows.below hp hbx; replace hm := Rows.below hm hbx; clear hbx o; have o := hF.own; simp only [World.size_alloc, World.size_drew, World.size_setCell, List.mem_cons, List.not_mem_nil, or_false, forall_eq_or_imp, forall_eq, At, and_true, Nat.zero_add, Nat.reduceAdd, List.set_cons_zero, List.set_cons_succ] at o) | (go_at_call 63; go_must (refine (iMarks_any _ M _ hm).mono ?_); rintro e wx ⟨rfl, hbx⟩; replace hF := hF.below hbx; (try replace hE := hE.below hbx); replace hp := Rows.below hp hbx; replace hm := Rows.below hm hbx; clear hbx o; have o := hF.own; simp only [World.size_alloc, World.size_drew, World.size_setCell, List.mem_cons, List.not_mem_nil, or_false, forall_eq_or_imp, forall_eq, At, and_true, Nat.zero_add, Nat.reduceAdd, List.set_cons_zero, List.set_cons_succ] at o))
            go_ret
            exact ⟨by rw [hr.out]; rfl, hF.kp⟩
        · have hr : Hid (decide (RtOk f b P lk M) = false) := decide_eq_false fun g => h4 g.2.2.2.1.1
          clear h1 h2 h3
          go_wp2_with (first | (go_at_call 45; go_must (refine (iRangeOk_any _ _ _).mono ?_); rintro e wx ⟨rfl, hbx⟩; replace hF := hF.below hbx; (try replace hE := hE.below hbx); replace hp := Rows.below hp hbx; replace hm := Rows.below hm hbx; clear hbx o; have o := hF.own; simp only [World.size_alloc, World.size_drew, World.size_setCell, List.mem_cons, List.not_mem_nil, or_false, forall_eq_or_imp, forall_eq, At, and_true, Nat.zero_add, Nat.reduceAdd, List.set_cons_zero, List.set_cons_succ] at o) | (go_at_call 62; go_must (refine (iPathOk_any _ P a _ hp hE).mono ?_); rintro e wx ⟨rfl, hbx⟩; replace hF := hF.below hbx; (try replace hE := hE.below hbx); replace hp := Rows.below hp hbx; replace hm := Rows.below hm hbx; clear hbx o; have o := hF.own; simp only [World.size_alloc, World.size_drew, World.size_setCell, List.mem_cons, List.not_mem_nil, or_false, forall_eq_or_imp, forall_eq, At, and_true, Nat.zero_add, Nat.reduceAdd, List.set_cons_zero, List.set_cons_succ] at o) | (go_at_call 63; go_must (refine (iMarks_any _ M _ hm).mono ?_); rintro e wx ⟨rfl, hbx⟩; replace hF := hF.below hbx; (try replace hE := hE.below hbx); replace hp := Rows.below hp hbx; replace hm := Rows.below hm hbx; clear hbx o; have o := hF.own; simp only [World.size_alloc, World.size_drew, World.size_setCell, List.mem_cons, List.not_mem_nil, or_false, forall_eq_or_imp, forall_eq, At, and_true, Nat.zero_add, Nat.reduceAdd, List.set_cons_zero, List.set_cons_succ] at o))
          go_ret
          exact ⟨by rw [hr.out]; rfl, hF.kp⟩
      · have d3 : decide (POk P) = false := by simp [h3]
        have hr : Hid (decide (RtOk f b P lk M) = false) := decide_eq_false fun g => h3 g.2.2.1
        clear h1 h2 h3
        go_wp2_with (first | (go_at_call 45; go_must (refine (iRangeOk_any _ _ _).mono ?_); rintro e wx ⟨rfl, hbx⟩; replace hF := hF.below hbx; (try replace hE := hE.below hbx); replace hp := Rows.below hp hbx; replace hm := Rows.below hm hbx; clear hbx o; have o := hF.own; simp only [World.size_alloc, World.size_drew, World.size_setCell, List.mem_cons, List.not_mem_nil, or_false, forall_eq_or_imp, forall_eq, At, and_true, Nat.zero_add, Nat.reduceAdd, List.set_cons_zero, List.set_cons_succ] at o) | (go_at_call 62; go_must (refine (iPathOk_any _ P a _ hp hE).mono ?_); rintro e wx ⟨rfl, hbx⟩; replace hF := hF.below hbx; (try replace hE := hE.below hbx); replace hp := Rows.below hp hbx; replace hm := Rows.below hm hbx; clear hbx o; have o := hF.own; simp only [World.size_alloc, World.size_drew, World.size_setCell, List.mem_cons, List.not_mem_nil, or_false, forall_eq_or_imp, forall_eq, At, and_true, Nat.zero_add, Nat.reduceAdd, List.set_cons_zero, List.set_cons_succ] at o) | (go_at_call 63; go_must (refine (iMarks_any _ M _ hm).mono ?_); rintro e wx ⟨rfl, hbx⟩; replace hF := hF.below hbx; (try replace hE := hE.below hbx); replace hp := Rows.below hp hbx; replace hm := Rows.below hm hbx; clear hbx o; have o := hF.own; simp only [World.size_alloc, World.size_drew, World.size_setCell, List.mem_cons, List.not_mem_nil, or_false, forall_eq_or_imp, forall_eq, At, and_true, Nat.zero_add, Nat.reduceAdd, List.set_cons_zero, List.set_cons_succ] at o))
        go_ret
        exact ⟨by rw [hr.out]; rfl, hF.kp⟩
    · have d2 : ¬ (0 : Int) < n := by omega
      have hr : Hid (decide (RtOk f b P lk M) = false) := decide_eq_false fun g => h2 (by have := g.2.1; rwa [hn.out] at this)
      clear h1 h2
      go_wp2_with (first | (go_at_call 45; go_must (refine (iRangeOk_any _ _ _).mono ?_); rintro e wx ⟨rfl, hbx⟩; replace hF := hF.below hbx; (try replace hE := hE.below hbx); replace hp := Rows.below hp hbx; replace hm := Rows.below hm hbx; clear hbx o; have o := hF.own; simp only [World.size_alloc, World.size_drew, World.size_setCell, List.mem_cons, List.not_mem_nil, or_false, forall_eq_or_imp, forall_eq, At, and_true, Nat.zero_add, Nat.reduceAdd, List.set_cons_zero, List.set_cons_succ] at o) | (go_at_call 62; go_must (refine (iPathOk_any _ P a _ hp hE).mono ?_); rintro e wx ⟨rfl, hbx⟩; replace hF := hF.below hbx; (try replace hE := hE.below hbx); replace hp := Rows.below hp hbx; replace hm := Rows.below hm hbx; clear hbx o; have o := hF.own; simp only [World.size_alloc, World.size_drew, World.size_setCell, List.mem_cons, List.not_mem_nil, or_false, forall_eq_or_imp, forall_eq, At, and_true, Nat.zero_add, Nat.reduceAdd, List.set_cons_zero, List.set_cons_succ] at o) | (go_at_call 63; go_must (refine (iMarks_any _ M _ hm).mono ?_); rintro e wx ⟨rfl, hbx⟩; replace hF := hF.below hbx; (try replace hE := hE.below hbx); replace hp := Rows.below hp hbx; replace hm := Rows.below hm hbx; clear hbx o; have o := hF.own; simp only [World.size_alloc, World.size_drew, World.size_setCell, List.mem_cons, List.not_mem_nil, or_false, forall_eq_or_imp, forall_eq, At, and_true, Nat.zero_add, Nat.reduceAdd, List.set_cons_zero, List.set_cons_succ] at o))
      go_ret
      exact ⟨by rw [hr.out]; rfl, hF.kp⟩
  · have d1 : decide (ROk f b) = false := by simp [h1]
    have hr : Hid (decide (RtOk f b P lk M) = false) := decide_eq_false fun g => h1 g.1
    clear h1
    go_wp2_with (first | (go_at_call 45; go_must (refine (iRangeOk_any _ _ _).mono ?_); rintro e wx ⟨rfl, hbx⟩; replace hF := hF.below hbx; (try replace hE := hE.below hbx); replace hp := Rows.below hp hbx; replace hm := Rows.below hm hbx; clear hbx o; have o := hF.own; simp only [World.size_alloc, World.size_drew, World.size_setCell, List.mem_cons, List.not_mem_nil, or_false, forall_eq_or_imp, forall_eq, At, and_true, Nat.zero_add, Nat.reduceAdd, List.set_cons_zero, List.set_cons_succ] at o) | (go_at_call 62; go_must (refine (iPathOk_any _ P a _ hp hE).mono ?_); rintro e wx ⟨rfl, hbx⟩; replace hF := hF.below hbx; (try replace hE := hE.below hbx); replace hp := Rows.below hp hbx; replace hm := Rows.below hm hbx; clear hbx o; have o := hF.own; simp only [World.size_alloc, World.size_drew, World.size_setCell, List.mem_cons, List.not_mem_nil, or_false, forall_eq_or_imp, forall_eq, At, and_true, Nat.zero_add, Nat.reduceAdd, List.set_cons_zero, List.set_cons_succ] at o) | (go_at_call 63; go_must (refine (iMarks_any _ M _ hm).mono ?_); rintro e wx ⟨rfl, hbx⟩; replace hF := hF.below hbx; (try replace hE := hE.below hbx); replace hp := Rows.below hp hbx; replace hm := Rows.below hm hbx; clear hbx o; have o := hF.own; simp only [World.size_alloc, World.size_drew, World.size_setCell, List.mem_cons, List.not_mem_nil, or_false, forall_eq_or_imp, forall_eq, At, and_true, Nat.zero_add, Nat.reduceAdd, List.set_cons_zero, List.set_cons_succ] at o))
    go_ret
    exact ⟨by rw [hr.out]; rfl, hF.kp⟩
set_option maxHeartbeats 2000000 in
theorem sRouteOk_any (f b lk : Int) (pv mv : Value) (P M : List Int) (w : World) (hp : Ints w pv P) (hm : Ints w mv M) :
    Calls Tryd.prog 28 #[.agg #[.int .i64 f, .int .i64 b, pv, .int .i64 lk, mv]] w fun e w' => e = .returned (.bool (decide (RtOk f b P lk M))) ∧ Below w.heap.size w w' := by
  obtain ⟨ao, c1, rfl, -⟩ := hp.ex
  obtain ⟨ao2, c2, rfl, -⟩ := hm.ex
  obtain ⟨n, hn⟩ : ∃ n, Hid (P.length = n) := ⟨_, rfl⟩
  obtain ⟨m, hmn⟩ : ∃ m, Hid (M.length = m) := ⟨_, rfl⟩
  rw [hn.out] at hp ⊢
  rw [hmn.out] at hm ⊢
  have hF := (Fb.start w).alloc [.int .i64 f, .int .i64 b, .slice ao n c1, .int .i64 lk, .slice ao2 m c2] 35
  have hb0 := (Below.refl w.heap.size w).alloc (Nat.le_refl _) (.cells #[.int .i64 f, .int .i64 b, .slice ao n c1, .int .i64 lk, .slice ao2 m c2] 35)
  replace hp := Rows.below hp hb0
  replace hm := Rows.below hm hb0
  clear hb0
  have o := hF.own; simp only [World.size_alloc, World.size_drew, World.size_setCell, List.mem_cons, List.not_mem_nil, or_false, forall_eq_or_imp, forall_eq, At, and_true, Nat.zero_add, Nat.reduceAdd, List.set_cons_zero, List.set_cons_succ] at o
  go_enter Tryd.func28, Tryd.ntmps28
  by_cases h1 : ROk f b
  · have d1 : decide (ROk f b) = true := by simp [h1]
    by_cases h3 : POk P
    · have d3 : decide (POk P) = true := by simp [h3]
      by_cases h2 : 0 < n
      · have d2 : (0 : Int) < n := by omega
        by_cases h4 : Bts lk 0 9
        · have d4 : decide (Bts lk 0 9) = true := by simp [h4]
          have hr : Hid (decide (RtOk f b P lk M) = decide (MOk M)) := decide_eq_decide.2 ⟨fun g => g.2.2.2.2, fun g => ⟨h1, by rw [hn.out]; exact h2, h3, h4, g⟩⟩
          clear h1 h2 h3 h4
          go_wp2_with (first | (go_at_call 51; go_must (refine (sRangeOk_any _ _ _).mono ?_); rintro e wx ⟨rfl, hbx⟩; replace hF := hF.below hbx; (try replace hE := hE.below hbx); replace hp := Rows.below hp hbx; replace hm := Rows.below hm hbx; clear hbx o; have o := hF.own; simp only [World.size_alloc, World.size_drew, World.size_setCell, List.mem_cons, List.not_mem_nil, or_false, forall_eq_or_imp, forall_eq, At, and_true, Nat.zero_add, Nat.reduceAdd, List.set_cons_zero, List.set_cons_succ] at o) | (go_at_call 52; go_must (refine (sPathOk_any _ P _ hp).mono ?_); rintro e wx ⟨rfl, hbx⟩; replace hF := hF.below hbx; (try replace hE := hE.below hbx); replace hp := Rows.below hp hbx; replace hm := Rows.below hm hbx; clear hbx o; have o := hF.own; simp only [World.size_alloc, World.size_drew, World.size_setCell, List.mem_cons, List.not_mem_nil, or_false, forall_eq_or_imp, forall_eq, At, and_true, Nat.zero_add, Nat.reduceAdd, List.set_cons_zero, List.set_cons_succ] at o) | (go_at_call 53; go_must (refine (l6In_any _ _ _ _).mono ?_); rintro e wx ⟨rfl, hbx⟩; replace hF := hF.below hbx; (try replace hE := hE.below hbx); replace hp := Rows.below hp hbx; replace hm := Rows.below hm hbx; clear hbx o; have o := hF.own; simp only [World.size_alloc, World.size_drew, World.size_setCell, List.mem_cons, List.not_mem_nil, or_false, forall_eq_or_imp, forall_eq, At, and_true, Nat.zero_add, Nat.reduceAdd, List.set_cons_zero, List.set_cons_succ] at o) | (go_at_call 54; go_must (refine (sMarks_any _ M _ hm).mono ?_); rintro e wx ⟨rfl, hbx⟩; replace hF := hF.below hbx; (try replace hE := hE.below hbx); replace hp := Rows.below hp hbx; replace hm := Rows.below hm hbx; clear hbx o; have o := hF.own; simp only [World.size_alloc, World.size_drew, World.size_setCell, List.mem_cons, List.not_mem_nil, or_false, forall_eq_or_imp, forall_eq, At, and_true, Nat.zero_add, Nat.reduceAdd, List.set_cons_zero, List.set_cons_succ] at o))
          go_ret
          exact ⟨by rw [hr.out]; rfl, hF.kp⟩
        · have d4 : decide (Bts lk 0 9) = false := by simp [h4]
          have hr : Hid (decide (RtOk f b P lk M) = false) := decide_eq_false fun g => h4 g.2.2.2.1
          clear h1 h2 h3 h4
          go_wp2_with (first | (go_at_call 51; go_must (refine (sRangeOk_any _ _ _).mono ?_); rintro e wx ⟨rfl, hbx⟩; replace hF := hF.below hbx; (try replace hE := hE.below hbx); replace hp := Rows.below hp hbx; replace hm := Rows.below hm hbx; clear hbx o; have o := hF.own; simp only [World.size_alloc, World.size_drew, World.size_setCell, List.mem_cons, List.not_mem_nil, or_false, forall_eq_or_imp, forall_eq, At, and_true, Nat.zero_add, Nat.reduceAdd, List.set_cons_zero, List.set_cons_succ] at o) | (go_at_call 52; go_must (refine (sPathOk_any _ P _ hp).mono ?_); rintro e wx ⟨rfl, hbx⟩; replace hF := hF.below hbx; (try replace hE := hE.below hbx); replace hp := Rows.below hp hbx; replace hm := Rows.below hm hbx; clear hbx o; have o := hF.own; simp only [World.size_alloc, World.size_drew, World.size_setCell, List.mem_cons, List.not_mem_nil, or_false, forall_eq_or_imp, forall_eq, At, and_true, Nat.zero_add, Nat.reduceAdd, List.set_cons_zero, List.set_cons_succ] at o) | (go_at_call 53; go_must (refine (l6In_any _ _ _ _).mono ?_); rintro e wx ⟨rfl, hbx⟩; replace hF := hF.below hbx; (try replace hE := hE.below hbx); replace hp := Rows.below hp hbx; replace hm := Rows.below hm hbx; clear hbx o; have o := hF.own; simp only [World.size_alloc, World.size_drew, World.size_setCell, List.mem_cons, List.not_mem_nil, or_false, forall_eq_or_imp, forall_eq, At, and_true, Nat.zero_add, Nat.reduceAdd, List.set_cons_zero, List.set_cons_succ] at o) | (go_at_call 54; go_must (refine (sMarks_any _ M _ hm).mono ?_); rintro e wx ⟨rfl, hbx⟩; replace hF := hF.below hbx; (try replace hE := hE.below hbx); replace hp := Rows.below hp hbx; replace hm := Rows.below hm hbx; clear hbx o; have o := hF.own; simp only [World.size_alloc, World.size_drew, World.size_setCell, List.mem_cons, List.not_mem_nil, or_false, forall_eq_or_imp, forall_eq, At, and_true, Nat.zero_add, Nat.reduceAdd, List.set_cons_zero, List.set_cons_succ] at o))
          go_ret
          exact ⟨by rw [hr.out]; rfl, hF.kp⟩
      · have d2 : ¬ (0 : Int) < n := by omega
        have hr : Hid (decide (RtOk f b P lk M) = false) := decide_eq_false fun g => h2 (by have := g.2.1; rwa [hn.out] at this)
        clear h1 h2 h3
        go_wp2_with (first | (go_at_call 51; go_must (refine (sRangeOk_any _ _ _).mono ?_); rintro e wx ⟨rfl, hbx⟩; replace hF := hF.below hbx; (try replace hE := hE.below hbx); replace hp := Rows.below hp hbx; replace hm := Rows.below hm hbx; clear hbx o; have o := hF.own; simp only [World.size_alloc, World.size_drew, World.size_setCell, List.mem_cons, List.not_mem_nil, or_false, forall_eq_or_imp, forall_eq, At, and_true, Nat.zero_add, Nat.reduceAdd, List.set_cons_zero, List.set_cons_succ] at o) | (go_at_call 52; go_must (refine (sPathOk_any _ P _ hp).mono ?_); rintro e wx ⟨rfl, hbx⟩; replace hF := hF.below hbx; (try replace hE := hE.below hbx); replace hp := Rows.below hp hbx; replace hm := Rows.below hm hbx; clear hbx o; have o := hF.own; simp only [World.size_alloc, World.size_drew, World.size_setCell, List.mem_cons, List.not_mem_nil, or_false, forall_eq_or_imp, forall_eq, At, and_true, Nat.zero_add, Nat.reduceAdd, List.set_cons_zero, List.set_cons_succ] at o) | (go_at_call 53; go_must (refine (l6In_any _ _ _ _).mono ?_); rintro e wx ⟨rfl, hbx⟩; replace hF := hF.below hbx; (try replace hE := hE.below hbx); replace hp := Rows.below hp hbx; replace hm := Rows.below hm hbx; clear hbx o; have o := hF.own; simp only [World.size_alloc, World.size_drew, World.size_setCell, List.mem_cons, List.not_mem_nil, or_false, forall_eq_or_imp, forall_eq, At, and_true, Nat.zero_add, Nat.reduceAdd, List.set_cons_zero, List.set_cons_succ] at o) | (go_at_call 54; go_must (refine (sMarks_any _ M _ hm).mono ?_); rintro e wx ⟨rfl, hbx⟩; replace hF := hF.below hbx; (try replace hE := hE.below hbx); replace hp := Rows.below hp hbx; replace hm := Rows.below hm hbx; clear hbx o; have o := hF.own; simp only [World.size_alloc, World.size_drew, World.size_setCell, List.mem_cons, List.not_mem_nil, or_false, forall_eq_or_imp, forall_eq, At, and_true, Nat.zero_add, Nat.reduceAdd, List.set_cons_zero, List.set_cons_succ] at o))
        go_ret
        exact ⟨by rw [hr.out]; rfl, hF.kp⟩
    · have d3 : decide (POk P) = false := by simp [h3]
      have hr : Hid (decide (RtOk f b P lk M) = false) := decide_eq_false fun g => h3 g.2.2.1
      clear h1 h3
      go_wp2_with (first | (go_at_call 51; go_must (refine (sRangeOk_any _ _ _).mono ?_); rintro e wx ⟨rfl, hbx⟩; replace hF := hF.below hbx; (try replace hE := hE.below hbx); replace hp := Rows.below hp hbx; replace hm := Rows.below hm hbx; clear hbx o; have o := hF.own; simp only [World.size_alloc, World.size_drew, World.size_setCell, List.mem_cons, List.not_mem_nil, or_false, forall_eq_or_imp, forall_eq, At, and_true, Nat.zero_add, Nat.reduceAdd, List.set_cons_zero, List.set_cons_succ] at o) | (go_at_call 52; go_must (refine (sPathOk_any _ P _ hp).mono ?_); rintro e wx ⟨rfl, hbx⟩; replace hF := hF.below hbx; (try replace hE := hE.below hbx); replace hp := Rows.below hp hbx; replace hm := Rows.below hm hbx; clear hbx o; have o := hF.own; simp only [World.size_alloc, World.size_drew, World.size_setCell, List.mem_cons, List.not_mem_nil, or_false, forall_eq_or_imp, forall_eq, At, and_true, Nat.zero_add, Nat.reduceAdd, List.set_cons_zero, List.set_cons_succ] at o) | (go_at_call 53; go_must (refine (l6In_any _ _ _ _).mono ?_); rintro e wx ⟨rfl, hbx⟩; replace hF := hF.below hbx; (try replace hE := hE.below hbx); replace hp := Rows.below hp hbx; replace hm := Rows.below hm hbx; clear hbx o; have o := hF.own; simp only [World.size_alloc, World.size_drew, World.size_setCell, List.mem_cons, List.not_mem_nil, or_false, forall_eq_or_imp, forall_eq, At, and_true, Nat.zero_add, Nat.reduceAdd, List.set_cons_zero, List.set_cons_succ] at o) | (go_at_call 54; go_must (refine (sMarks_any _ M _ hm).mono ?_); rintro e wx ⟨rfl, hbx⟩; replace hF := hF.below hbx; (try replace hE := hE.below hbx); replace hp := Rows.below hp hbx; replace hm := Rows.below hm hbx; clear hbx o; have o := hF.own; simp only [World.size_alloc, World.size_drew, World.size_setCell, List.mem_cons, List.not_mem_nil, or_false, forall_eq_or_imp, forall_eq, At, and_true, Nat.zero_add, Nat.reduceAdd, List.set_cons_zero, List.set_cons_succ] at o))
      go_ret
      exact ⟨by rw [hr.out]; rfl, hF.kp⟩
  · have d1 : decide (ROk f b) = false := by simp [h1]
    have hr : Hid (decide (RtOk f b P lk M) = false) := decide_eq_false fun g => h1 g.1
    clear h1
    go_wp2_with (first | (go_at_call 51; go_must (refine (sRangeOk_any _ _ _).mono ?_); rintro e wx ⟨rfl, hbx⟩; replace hF := hF.below hbx; (try replace hE := hE.below hbx); replace hp := Rows.below hp hbx; replace hm := Rows.below hm hbx; clear hbx o; have o := hF.own; simp only [World.size_alloc, World.size_drew, World.size_setCell, List.mem_cons, List.not_mem_nil, or_false, forall_eq_or_imp, forall_eq, At, and_true, Nat.zero_add, Nat.reduceAdd, List.set_cons_zero, List.set_cons_succ] at o) | (go_at_call 52; go_must (refine (sPathOk_any _ P _ hp).mono ?_); rintro e wx ⟨rfl, hbx⟩; replace hF := hF.below hbx; (try replace hE := hE.below hbx); replace hp := Rows.below hp hbx; replace hm := Rows.below hm hbx; clear hbx o; have o := hF.own; simp only [World.size_alloc, World.size_drew, World.size_setCell, List.mem_cons, List.not_mem_nil, or_false, forall_eq_or_imp, forall_eq, At, and_true, Nat.zero_add, Nat.reduceAdd, List.set_cons_zero, List.set_cons_succ] at o) | (go_at_call 53; go_must (refine (l6In_any _ _ _ _).mono ?_); rintro e wx ⟨rfl, hbx⟩; replace hF := hF.below hbx; (try replace hE := hE.below hbx); replace hp := Rows.below hp hbx; replace hm := Rows.below hm hbx; clear hbx o; have o := hF.own; simp only [World.size_alloc, World.size_drew, World.size_setCell, List.mem_cons, List.not_mem_nil, or_false, forall_eq_or_imp, forall_eq, At, and_true, Nat.zero_add, Nat.reduceAdd, List.set_cons_zero, List.set_cons_succ] at o) | (go_at_call 54; go_must (refine (sMarks_any _ M _ hm).mono ?_); rintro e wx ⟨rfl, hbx⟩; replace hF := hF.below hbx; (try replace hE := hE.below hbx); replace hp := Rows.below hp hbx; replace hm := Rows.below hm hbx; clear hbx o; have o := hF.own; simp only [World.size_alloc, World.size_drew, World.size_setCell, List.mem_cons, List.not_mem_nil, or_false, forall_eq_or_imp, forall_eq, At, and_true, Nat.zero_add, Nat.reduceAdd, List.set_cons_zero, List.set_cons_succ] at o))
    go_ret
    exact ⟨by rw [hr.out]; rfl, hF.kp⟩
end Go.Proofs.YtiocomefkckbfaaDoor
set_option linter.unusedSimpArgs false
set_option linter.unusedVariables false
namespace Go.Proofs.YtiocomefkckbfaaDoor
open Go.RowKit

theorem infoSl : (Tryd.prog.info? 28).map (fun i => (i.zero, i.size, i.bytes)) = some (some (.agg #[.int .i64 0, .int .i64 0, .int .i64 0, .int .i64 0, .slice none 0 0]), 5, 56) := by kernel_rfl
theorem ints_capS {w : World} {ao : Option Addr} {n c : Nat} {L : List Int} (h : Ints w (.slice ao n c) L) : n ≤ c ∧ c ≤ 9223372036854775807 ∧ L.length = n := by
  obtain ⟨ao, cap, e, h1, h2, _⟩ := h.ex
  injection e with e1 e2 e3
  subst e2; subst e3
  exact ⟨h1, h2, rfl⟩
theorem ints_dropS {w : World} {b off n c : Nat} {L : List Int} (h : Ints w (.slice (some ⟨b, off, none⟩) n c) L) {k : Nat} (hk : k ≤ n) : Ints w (.slice (some ⟨b, off + k, none⟩) (n - k) (c - k)) (L.drop k) := by
  obtain ⟨hc, hcc, hl⟩ := ints_capS h
  have := Rows.sub h (i := k) (j := n) (c' := c - k) (by omega) (by omega) (by omega) (by omega)
  rw [List.take_of_length_le (by omega)] at this
  simpa using this
theorem one_encS (d : SlV) (h : d.2.2.2.2.oneCell' = true) : ∀ u ∈ encS d, u.oneCell' = true := fun u hu => by
  simp [encS] at hu; rcases hu with rfl | rfl | rfl | rfl | rfl <;> first | rfl | exact h
theorem own_one {α : Type} {E : TypeId} {w : World} {B : Nat} {v : Value} {sz : Nat} {enc : α → List Value} {L : List α} (h : Own E w B v sz enc L) : v.oneCell' = true := by
  obtain ⟨ao, cap, rfl⟩ := h.sl; rfl
theorem slI_nil (a : Option Addr) (n c : Nat) (w : World) : (binOp .eql 26 (.slice a n c) (.slice none 0 0)).run Tryd.prog w = .ok (.bool a.isNone) w := Go.Lib.run_eql_slice_nil w 26 3 a n c 0 0 Tryd.underlying26
set_option maxHeartbeats 1000000 in
theorem CloneI_any (b off n c : Nat) (L : List Int) (w : World) (hv : Ints w (.slice (some ⟨b, off, none⟩) n c) L) (hn1 : n ≤ 1000) :
    Calls Tryd.prog 41 #[.slice (some ⟨b, off, none⟩) n c] w fun e w' => ∃ u, e = .returned u ∧ Own 3 w' w.heap.size u 1 encI L ∧ Below w.heap.size w w' := by
  have hF := (Fb.start w).other (.cells #[] 3)
  have hO : Own 3 (w.alloc (.cells #[] 3)) w.heap.size (.slice (some ⟨w.heap.size, 0, none⟩) 0 0) 1 encI [] := Own.made _ _ _ _ _ (Nat.le_refl _)
  have hV := Lib.hid (Rows.alloc hv (.cells #[] 3))
  have hnil := slI_nil (some ⟨b, off, none⟩) n c
  clear hv
  go_enter Tryd.func41, Tryd.ntmps41
  go_wp2_with (at_builtin; refine wpList_apps rfl _ _ 26 rfl 3 (.int .i64 0) 1 8 Tryd.underlying26 infoInt rfl (by decide) (by decide) w.heap.size encI (fun _ => rfl) (fun _ u hu => by simp [encI] at hu; subst hu; rfl) _ [] rfl hO b off n c L rfl hV.out (by simp; omega) (by simp) ?_; intro v' wx hO1 hg1 hb1 hf1 hz1; replace hF := hF.belowB hb1 (Nat.le_refl _) (by simp))
  go_ret
  exact ⟨_, rfl, hO1, hF.kp⟩

/-- What the cells of seals read as, and their paths; the paths lie apart from the row, between blocks B and U. -/
def SRel (w : World) (B U : Nat) (v : Value) (ds : List SlV) (L : List Sl) : Prop := ds.length = L.length ∧ ∀ (k : Nat) (s : Sl), L[k]? = some s → ∃ u : Value, ds[k]? = some (s.1, s.2.1, s.2.2.1, s.2.2.2.1, u) ∧ Ints w u s.2.2.2.2 ∧ Apart u v ∧ ∀ g, u.ownBlock = some g → B ≤ g ∧ g < U
theorem SRel.below {w w' : World} {B U : Nat} {v : Value} {ds : List SlV} {L : List Sl} (h : SRel w B U v ds L) (K : Below w.heap.size w w') : SRel w' B U v ds L := ⟨h.1, fun k s hk => by
  obtain ⟨u, a, b, c, d⟩ := h.2 k s hk
  exact ⟨u, a, Rows.below b K, c, d⟩⟩
theorem SRel.mono {w : World} {B B' U U' : Nat} {v : Value} {ds : List SlV} {L : List Sl} (h : SRel w B U v ds L) (hB : B' ≤ B) (hU : U ≤ U') : SRel w B' U' v ds L := ⟨h.1, fun k s hk => by
  obtain ⟨u, a, b, c, d⟩ := h.2 k s hk
  exact ⟨u, a, b, c, fun g hg => by have := d g hg; omega⟩⟩
theorem SRel.kp {w w' : World} {B U r : Nat} {v : Value} {ds : List SlV} {L : List Sl} (h : SRel w B U v ds L) (K : Kp r w w') (hr : r < B) : SRel w' B U v ds L := ⟨h.1, fun k s hk => by
  obtain ⟨u, a, b, c, d⟩ := h.2 k s hk
  exact ⟨u, a, Rows.kp b K (B := B) (fun g hg => (d g hg).1) hr, c, d⟩⟩
theorem SRel.snoc {w0 w w' : World} {B U : Nat} {v v' u : Value} {ds : List SlV} {L : List Sl} {x t f n : Int} {p : List Int} (h : SRel w0 B U v ds L) (hU : U ≤ w0.heap.size) (hg : w.grownBy w' v.ownBlock) (hf : Frsh w v v') (hs : w.heap.size ≤ w'.heap.size) (K : Below w0.heap.size w0 w) (hu : Ints w u p) (ha : Apart u v) (hl : ∀ g, u.ownBlock = some g → B ≤ g ∧ g < w.heap.size) :
    SRel w' B w'.heap.size v' (ds ++ [(x, t, f, n, u)]) (L ++ [(x, t, f, n, p)]) := by
  refine ⟨by simp [h.1], fun k s hk => ?_⟩
  by_cases hlt : k < L.length
  · rw [List.getElem?_append_left hlt] at hk
    obtain ⟨y, e1, e2, e3, e4⟩ := h.2 k s hk
    have hKs := K.size
    have e5 : ∀ g, y.ownBlock = some g → g < w.heap.size := fun g hg' => by have := e4 g hg'; omega
    exact ⟨y, by rw [List.getElem?_append_left (by rw [h.1]; exact hlt)]; exact e1, Rows.grown (Rows.below e2 K) hg e3, e3.frsh hf e5, fun g hg' => ⟨(e4 g hg').1, Nat.lt_of_lt_of_le (e5 g hg') hs⟩⟩
  · have hk2 : k = L.length := by have := (List.getElem?_eq_some_iff.1 hk).1; simp at this; omega
    subst hk2
    rw [List.getElem?_append_right (Nat.le_refl _)] at hk
    simp at hk
    subst hk
    exact ⟨u, by rw [List.getElem?_append_right (by rw [h.1]; exact Nat.le_refl _)]; simp [h.1], Rows.grown hu hg ha, ha.frsh hf (fun g hg' => (hl g hg').2), fun g hg' => ⟨(hl g hg').1, Nat.lt_of_lt_of_le (hl g hg').2 hs⟩⟩
/-- One's own growing row of seals, with paths that lie apart from it, all from block B on. -/
def SOwn (w : World) (B : Nat) (v : Value) (L : List Sl) : Prop := ∃ ds, Own 28 w B v 5 encS ds ∧ SRel w B w.heap.size v ds L
theorem SOwn.sls {w : World} {B : Nat} {v : Value} {L : List Sl} (h : SOwn w B v L) : Sls w v L := by
  obtain ⟨ds, h1, h2⟩ := h
  exact ⟨ds, h1.rows (fun _ => rfl), h2.1, fun k s hk => by obtain ⟨u, a, b, -⟩ := h2.2 k s hk; exact ⟨u, a, b⟩⟩
theorem SOwn.below {w w' : World} {B : Nat} {v : Value} {L : List Sl} (h : SOwn w B v L) (K : Below w.heap.size w w') : SOwn w' B v L := by
  obtain ⟨ds, h1, h2⟩ := h
  exact ⟨ds, h1.below K, (h2.below K).mono (Nat.le_refl _) K.size⟩
theorem SOwn.kp {w w' : World} {B r : Nat} {v : Value} {L : List Sl} (h : SOwn w B v L) (K : Kp r w w') (hr : r < B) : SOwn w' B v L := by
  obtain ⟨ds, h1, h2⟩ := h
  exact ⟨ds, h1.kp K hr, (h2.kp K hr).mono (Nat.le_refl _) K.size⟩
theorem SOwn.nil (w : World) (B : Nat) : SOwn w B (.slice none 0 0) [] := ⟨[], Own.nil _ _ _ _ _, rfl, fun k s h => by simp at h⟩
theorem SOwn.made (w : World) (B : Nat) (hB : B ≤ w.heap.size) : SOwn (w.alloc (.cells #[] 28)) B (.slice (some ⟨w.heap.size, 0, none⟩) 0 0) [] := ⟨[], Own.made _ _ _ _ _ hB, rfl, fun k s h => by simp at h⟩
theorem SOwn.base {w : World} {B B' : Nat} {v : Value} {L : List Sl} (h : SOwn w B' v L) (hB : B ≤ B') : SOwn w B v L := by
  obtain ⟨ds, h1, h2⟩ := h
  exact ⟨ds, h1.base hB, h2.mono hB (Nat.le_refl _)⟩
theorem SOwn.alloc {w : World} {B : Nat} {v : Value} {L : List Sl} (h : SOwn w B v L) (o : Obj) : SOwn (w.alloc o) B v L := h.below ((Below.refl _ _).alloc (Nat.le_refl _) _)
theorem SOwn.drew {w : World} {B : Nat} {v : Value} {L : List Sl} (h : SOwn w B v L) : SOwn w.drew B v L := h.below (Below.refl _ _).drew
theorem SOwn.set {w : World} {B : Nat} {v : Value} {L : List Sl} (h : SOwn w B v L) {a : Addr} (ha : a.block < B) (u : Value) : SOwn (w.setCell a u) B v L := by
  obtain ⟨ds, h1, h2⟩ := h
  refine ⟨ds, h1.set ha u, h2.1, fun k s hk => ?_⟩
  obtain ⟨y, e1, e2, e3, e4⟩ := h2.2 k s hk
  exact ⟨y, e1, Rows.set e2 (B := B) (fun g hg => (e4 g hg).1) ha u, e3, fun g hg => by simp only [World.size_setCell]; exact e4 g hg⟩
theorem SOwn.sl {w : World} {B : Nat} {v : Value} {L : List Sl} (h : SOwn w B v L) : ∃ ao cap, v = .slice ao L.length cap := by
  obtain ⟨ds, h1, h2⟩ := h
  obtain ⟨ao, cap, e⟩ := h1.sl
  exact ⟨ao, cap, by rw [← h2.1]; exact e⟩

theorem SRel.take {w : World} {B U : Nat} {v : Value} {ds : List SlV} {L : List Sl} (h : SRel w B U v ds L) (n : Nat) : SRel w B U v (ds.take n) (L.take n) := ⟨by simp [h.1], fun k s hk => by
  rw [List.getElem?_take] at hk ⊢
  split at hk
  · rename_i hlt
    rw [if_pos hlt]; exact h.2 k s hk
  · cases hk⟩
theorem SRel.drop {w : World} {B U : Nat} {v : Value} {ds : List SlV} {L : List Sl} (h : SRel w B U v ds L) (n : Nat) : SRel w B U v (ds.drop n) (L.drop n) := ⟨by simp [h.1], fun k s hk => by
  rw [List.getElem?_drop] at hk ⊢
  exact h.2 _ s hk⟩
theorem SRel.append {w : World} {B U : Nat} {v : Value} {ds es : List SlV} {L K : List Sl} (h : SRel w B U v ds L) (h2 : SRel w B U v es K) : SRel w B U v (ds ++ es) (L ++ K) := ⟨by simp [h.1, h2.1], fun k s hk => by
  by_cases hlt : k < L.length
  · rw [List.getElem?_append_left hlt] at hk
    rw [List.getElem?_append_left (by rw [h.1]; exact hlt)]
    exact h.2 k s hk
  · rw [List.getElem?_append_right (by omega)] at hk
    rw [List.getElem?_append_right (by rw [h.1]; omega), h.1]
    exact h2.2 _ s hk⟩
theorem SRel.re {w : World} {B U : Nat} {v v' : Value} {ds : List SlV} {L : List Sl} (h : SRel w B U v ds L) (hv : ∀ u : Value, (∀ g, u.ownBlock = some g → B ≤ g ∧ g < U) → Apart u v') : SRel w B U v' ds L := ⟨h.1, fun k s hk => by
  obtain ⟨u, a, b, c, d⟩ := h.2 k s hk
  exact ⟨u, a, b, hv u d, d⟩⟩
theorem SRel.grown {w w' : World} {B U : Nat} {v v' : Value} {ds : List SlV} {L : List Sl} (h : SRel w B U v ds L) (hU : U ≤ w.heap.size) (hg : w.grownBy w' v.ownBlock) (hf : Frsh w v v') : SRel w' B U v' ds L := ⟨h.1, fun k s hk => by
  obtain ⟨u, a, b, c, d⟩ := h.2 k s hk
  exact ⟨u, a, Rows.grown b hg c, c.frsh hf (fun g hg' => by have := d g hg'; omega), d⟩⟩
/-- A made row has taken in the seals of another one, whose paths lie behind it. -/
theorem SRel.apps {w w' : World} {B B2 U U2 : Nat} {v v' v2 : Value} {ds es : List SlV} {L K : List Sl} (h : SRel w B U v ds L) (h2 : SRel w B2 U2 v2 es K) (hB : B ≤ B2) (hU : U ≤ w.heap.size) (hU2 : U2 ≤ w.heap.size) (hg : w.grownBy w' v.ownBlock) (hf : Frsh w v v') (hv : ∀ g, v.ownBlock = some g → g < B2) : SRel w' B w'.heap.size v' (ds ++ es) (L ++ K) :=
  ((h.grown hU hg hf).mono (Nat.le_refl _) (Nat.le_trans hU hg.size)).append ((((h2.re (v' := v) (fun u hu g h1 h3 => by have := hu g h1; have := hv g h3; omega)).grown hU2 hg hf).mono hB (Nat.le_trans hU2 hg.size)))
theorem SRel.one {w : World} {B U : Nat} {v : Value} {ds : List SlV} {L : List Sl} (h : SRel w B U v ds L) : ∀ d ∈ ds, ∀ u ∈ encS d, u.oneCell' = true := fun d hd => by
  obtain ⟨k, hk, e⟩ := List.mem_iff_getElem.1 hd
  obtain ⟨s, hs⟩ := get_lt (L := L) (k := k) (by rw [← h.1]; exact hk)
  obtain ⟨u, a, b, -⟩ := h.2 k s hs
  rw [List.getElem?_eq_getElem hk, e] at a
  injection a with a
  refine one_encS d ?_
  rw [a]
  obtain ⟨ao, c, e2, -⟩ := b.ex
  show u.oneCell' = true
  rw [e2]; rfl
theorem own_some5 {α : Type} {E : TypeId} {w : World} {B : Nat} {v : Value} {sz : Nat} {enc : α → List Value} {L : List α} (h : Own E w B v sz enc L) (hL : 0 < L.length) : ∃ g c, v = .slice (some ⟨g, 0, none⟩) L.length c ∧ L.length ≤ c ∧ c ≤ 9223372036854775807 := by
  obtain ⟨_, ⟨rfl, h2⟩ | ⟨g, cap, cur, rfl, _, _, h4, h5, _⟩⟩ := h
  · omega
  · exact ⟨g, cap, rfl, h4, by unfold maxLen at h5; omega⟩
theorem rows_take {α : Type} {w : World} {b off n c sz : Nat} {enc : α → List Value} {L : List α} (h : Rows w (.slice (some ⟨b, off, none⟩) n c) sz enc L) {k : Nat} (hk : k ≤ n) : Rows w (.slice (some ⟨b, off, none⟩) k c) sz enc (L.take k) := by
  obtain ⟨ao, cap, e, h1, h2, _⟩ := h.ex
  injection e with e1 e2 e3
  have := h.sub (i := 0) (j := k) (c' := c) (Nat.zero_le _) hk (by omega) (by omega)
  simpa using this
theorem rows_drop {α : Type} {w : World} {b off n c sz : Nat} {enc : α → List Value} {L : List α} (h : Rows w (.slice (some ⟨b, off, none⟩) n c) sz enc L) {k : Nat} (hk : k ≤ n) : Rows w (.slice (some ⟨b, off + k * sz, none⟩) (n - k) (c - k)) sz enc (L.drop k) := by
  obtain ⟨ao, cap, e, h1, h2, _⟩ := h.ex
  injection e with e1 e2 e3
  have := h.sub (i := k) (j := n) (c' := c - k) hk (Nat.le_refl _) (by omega) (by omega)
  rwa [List.take_of_length_le (by omega)] at this

/-- To whom a house of a path told. -/
def tvAt (ti : Int) (P : List Int) (k : Nat) : Int := if k = 0 then ti else P.getD (k - 1) 0
def sAt (ti f n : Int) (P : List Int) (k : Nat) : Sl := (P.getD k 0, tvAt ti P k, f, n, P.drop k)
def mkN (ti f n : Int) (P : List Int) (k : Nat) : List Sl := (List.range k).map (sAt ti f n P)
theorem mkN_succ (ti f n : Int) (P : List Int) (k : Nat) : mkN ti f n P (k + 1) = mkN ti f n P k ++ [sAt ti f n P k] := by
  unfold mkN; rw [List.range_succ, List.map_append]; rfl
theorem mkN_len (ti f n : Int) (P : List Int) (k : Nat) : (mkN ti f n P k).length = k := by unfold mkN; simp
def SMk (ti f n lk : Int) (P M : List Int) : Prop := RtOk f n P lk M ∧ Bts ti 1 5 ∧ ti ∉ P
instance (ti f n lk : Int) (P M : List Int) : Decidable (SMk ti f n lk P M) := by unfold SMk; infer_instance
def sealsOf (ti f n lk : Int) (P M : List Int) : List Sl := if SMk ti f n lk P M then mkN ti f n P P.length else []
theorem getD_of {P : List Int} {k : Nat} {x : Int} (h : P[k]? = some x) : P.getD k 0 = x := by simp [List.getD, h]
end Go.Proofs.YtiocomefkckbfaaDoor
namespace Go.Proofs
open Go.Shelf
def YtiocomefkckbfaaDoor.laysItoa_ren : Go.Shelf.Ren := ⟨fun | 171 => 57 | 243 => 74 | 246 => 81 | 283 => 83 | 284 => 84 | 285 => 85 | 286 => 86 | 129 => 88 | 317 => 87 | 318 => 89 | 319 => 90 | 320 => 91 | 337 => 92 | 338 => 93 | n => n, fun | 3 => 3 | 9 => 9 | 2 => 2 | 4 => 4 | 171 => 124 | 0 => 0 | 53 => 125 | 37 => 22 | 5 => 5 | 173 => 128 | 212 => 131 | 51 => 132 | 20 => 20 | 213 => 133 | 46 => 88 | 232 => 136 | 233 => 137 | n => n, fun | 17 => 1 | 18 => 2 | 19 => 3 | n => n⟩
theorem YtiocomefkckbfaaDoor.laysItoa : Go.Proofs.LaysM.n171 Tryd.prog YtiocomefkckbfaaDoor.laysItoa_ren := {
  mixed := by kernel_rfl
  f129 := Tryd.func88.trans (congrArg some (by kernel_rfl))
  f171 := Tryd.func57.trans (congrArg some (by kernel_rfl))
  f243 := Tryd.func74.trans (congrArg some (by kernel_rfl))
  f246 := Tryd.func81.trans (congrArg some (by kernel_rfl))
  f283 := Tryd.func83.trans (congrArg some (by kernel_rfl))
  f284 := Tryd.func84.trans (congrArg some (by kernel_rfl))
  f285 := Tryd.func85.trans (congrArg some (by kernel_rfl))
  f286 := Tryd.func86.trans (congrArg some (by kernel_rfl))
  f317 := Tryd.func87.trans (congrArg some (by kernel_rfl))
  f318 := Tryd.func89.trans (congrArg some (by kernel_rfl))
  f319 := Tryd.func90.trans (congrArg some (by kernel_rfl))
  f320 := Tryd.func91.trans (congrArg some (by kernel_rfl))
  f337 := Tryd.func92.trans (congrArg some (by kernel_rfl))
  f338 := Tryd.func93.trans (congrArg some (by kernel_rfl))
  t0 := Tryd.underlying0
  a0 := Tryd.isAgg0
  z0 := Tryd.sizeOf0
  v0 := Tryd.zeroValue0
  t2 := Tryd.underlying2
  a2 := Tryd.isAgg2
  z2 := Tryd.sizeOf2
  v2 := Tryd.zeroValue2
  t3 := Tryd.underlying3
  a3 := Tryd.isAgg3
  z3 := Tryd.sizeOf3
  v3 := Tryd.zeroValue3
  t4 := Tryd.underlying4
  a4 := Tryd.isAgg4
  z4 := Tryd.sizeOf4
  v4 := Tryd.zeroValue4
  t5 := Tryd.underlying5
  a5 := Tryd.isAgg5
  z5 := Tryd.sizeOf5
  v5 := Tryd.zeroValue5
  t9 := Tryd.underlying9
  a9 := Tryd.isAgg9
  z9 := Tryd.sizeOf9
  v9 := Tryd.zeroValue9
  t20 := Tryd.underlying20
  a20 := Tryd.isAgg20
  z20 := Tryd.sizeOf20
  v20 := Tryd.zeroValue20
  t37 := Tryd.underlying22
  a37 := Tryd.isAgg22
  z37 := Tryd.sizeOf22
  v37 := Tryd.zeroValue22
  t46 := Tryd.underlying88
  a46 := Tryd.isAgg88
  z46 := Tryd.sizeOf88
  v46 := Tryd.zeroValue88
  t51 := Tryd.underlying132
  a51 := Tryd.isAgg132
  z51 := Tryd.sizeOf132
  v51 := Tryd.zeroValue132
  t53 := Tryd.underlying125
  a53 := Tryd.isAgg125
  z53 := Tryd.sizeOf125
  v53 := Tryd.zeroValue125
  t171 := Tryd.underlying124
  a171 := Tryd.isAgg124
  z171 := Tryd.sizeOf124
  v171 := Tryd.zeroValue124
  t173 := Tryd.underlying128
  a173 := Tryd.isAgg128
  z173 := Tryd.sizeOf128
  v173 := Tryd.zeroValue128
  t212 := Tryd.underlying131
  a212 := Tryd.isAgg131
  z212 := Tryd.sizeOf131
  v212 := Tryd.zeroValue131
  t213 := Tryd.underlying133
  a213 := Tryd.isAgg133
  z213 := Tryd.sizeOf133
  t232 := Tryd.underlying136
  a232 := Tryd.isAgg136
  z232 := Tryd.sizeOf136
  v232 := Tryd.zeroValue136
  t233 := Tryd.underlying137
  a233 := Tryd.isAgg137
  z233 := Tryd.sizeOf137
  v233 := Tryd.zeroValue137
  g17 := by kernel_rfl
  g18 := by kernel_rfl
  g19 := by kernel_rfl
  i0 := by kernel_rfl
  i2 := by kernel_rfl
  i3 := by kernel_rfl
  i4 := by kernel_rfl
  i5 := by kernel_rfl
  i9 := by kernel_rfl
  i20 := by kernel_rfl
  i37 := by kernel_rfl
  i46 := by kernel_rfl
  i51 := by kernel_rfl
  i53 := by kernel_rfl
  i171 := by kernel_rfl
  i173 := by kernel_rfl
  i212 := by kernel_rfl
  i232 := by kernel_rfl
  i233 := by kernel_rfl
  m17 := by kernel_rfl
  m18 := by kernel_rfl
  m19 := by kernel_rfl }
end Go.Proofs
set_option linter.unusedSimpArgs false
set_option linter.unusedVariables false
namespace Go.Proofs.YtiocomefkckbfaaDoor
open Go.RowKit Go.Shelf

abbrev Tab (w : World) : Prop := Lib.TabIs Tryd.prog w "internal/strconv.uint64pow10" .u64 Lib.pow10Tab
theorem Itoa_full (n : Int) (h0 : -9223372036854775808 ≤ n) (h1 : n ≤ 9223372036854775807) (w : World) (htab : Tab w) :
    Calls Tryd.prog 57 #[.int .i64 n] w fun e w' => e = .returned (.string ⟨(Lib.itoa n).toArray⟩) ∧ Below w.heap.size w w' :=
  (Any.strconv_Itoa laysItoa n h0 h1 w htab).mono fun _ _ ⟨h, k, os, e⟩ => ⟨h, by rw [e]; exact Lib.below_grow _ w (Nat.le_refl _) k os⟩
end Go.Proofs.YtiocomefkckbfaaDoor
