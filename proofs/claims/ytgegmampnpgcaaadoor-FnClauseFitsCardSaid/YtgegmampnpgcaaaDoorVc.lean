/- Routes compared. -/
import Derived.Test.YtgegmampnpgcaaaDoorVb
import Derived.Test.YtgegmampnpgcaaaDoorBq
set_option linter.unusedSimpArgs false
set_option linter.unusedVariables false
namespace Go.Proofs.YtgegmampnpgcaaaDoor
open Go.RowKit

/-- Which of two routes is better. -/
def rtc (f b lk : Int) (P M : List Int) (g c lk2 : Int) (P2 M2 : List Int) : Int := orz (icmp lk2 lk) (orz (PC P P2) (orz (RC f b g c) (orz (icmp (M.length : Int) (M2.length : Int)) (lex M M2))))
def RT (f b lk : Int) (P M : List Int) (g c lk2 : Int) (P2 M2 : List Int) : Int := if RtOk f b P lk M ∧ RtOk g c P2 lk2 M2 then rtc f b lk P M g c lk2 P2 M2 else 0
theorem compareB (a b : Int) (w : World) : Calls Tryd.prog 60 #[.int .i64 a, .int .i64 b] w fun e w' => e = .returned (.int .i64 (icmp a b)) ∧ Below w.heap.size w w' :=
  (compare_any a b w).mono fun _ _ ⟨h, e⟩ => ⟨h, by rw [← e]; exact Below.refl _ _⟩
theorem orI5 (a b c d e : Int) : orI [a, b, c, d, e] = orz a (orz b (orz c (orz d e))) := by
  simp only [orI_cons, orI_nil, orz]
  by_cases h1 : a = 0 <;> by_cases h2 : b = 0 <;> by_cases h3 : c = 0 <;> by_cases h4 : d = 0 <;> by_cases h5 : e = 0 <;> simp [h1, h2, h3, h4, h5]
theorem or_five (a b c d e : Int) (w : World) :
    Calls Tryd.prog 59 #[.slice (some ⟨w.heap.size, 0, none⟩) 5 5] (w.alloc (.cells #[.int .i64 a, .int .i64 b, .int .i64 c, .int .i64 d, .int .i64 e] 3)) fun x w' => x = .returned (.int .i64 (orz a (orz b (orz c (orz d e))))) ∧ w' = w.alloc (.cells #[.int .i64 a, .int .i64 b, .int .i64 c, .int .i64 d, .int .i64 e] 3) := by
  refine (or_any w.heap.size 0 5 [a, b, c, d, e] _ ?_ (by simp)).mono ?_
  · intro i hi
    match i, hi with
    | 0, _ => simp
    | 1, _ => simp
    | 2, _ => simp
    | 3, _ => simp
    | 4, _ => simp
  · rintro x w' ⟨rfl, rfl⟩
    rw [orI5]; exact ⟨rfl, rfl⟩
set_option maxHeartbeats 4000000 in
theorem iRouteCmp_any (f b lk : Int) (pv mv : Value) (P M : List Int) (g c lk2 : Int) (pv2 mv2 : Value) (P2 M2 : List Int) (a : Addr) (w : World) (hp : Ints w pv P) (hm : Ints w mv M) (hp2 : Ints w pv2 P2) (hm2 : Ints w mv2 M2) (hE : EPath w a) :
    Calls Tryd.prog 30 #[.agg #[.int .i64 f, .int .i64 b, pv, .int .i64 lk, mv], .agg #[.int .i64 g, .int .i64 c, pv2, .int .i64 lk2, mv2]] w fun e w' => e = .returned (.int .i64 (RT f b lk P M g c lk2 P2 M2)) ∧ Below w.heap.size w w' := by
  have HE := Lib.hid hE
  have HP := Lib.hid hp
  have HM := Lib.hid hm
  have HP2 := Lib.hid hp2
  have HM2 := Lib.hid hm2
  obtain ⟨o1, c1, rfl, -⟩ := hp.ex
  obtain ⟨o2, c2, rfl, -⟩ := hm.ex
  obtain ⟨o3, c3, rfl, -⟩ := hp2.ex
  obtain ⟨o4, c4, rfl, -⟩ := hm2.ex
  clear hp hm hp2 hm2 hE
  have hF := ((Fb.start w).alloc [.int .i64 f, .int .i64 b, .slice o1 P.length c1, .int .i64 lk, .slice o2 M.length c2] 29).alloc [.int .i64 g, .int .i64 c, .slice o3 P2.length c3, .int .i64 lk2, .slice o4 M2.length c4] 29
  simp only [World.size_alloc] at hF
  have o := hF.own; simp only [World.size_alloc, World.size_drew, World.size_setCell, List.mem_cons, List.not_mem_nil, or_false, forall_eq_or_imp, forall_eq, At, and_true, Nat.zero_add, Nat.reduceAdd, List.set_cons_zero, List.set_cons_succ] at o
  go_enter Tryd.func30, Tryd.ntmps30
  go_wp2_with fail
  refine (iRouteOk_any f b lk _ _ P M a _ (Rows.below HP.out hF.kp) (Rows.below HM.out hF.kp) (HE.out.below hF.kp)).mono ?_; rintro e w1 ⟨rfl, hb1⟩
  replace hF := hF.below hb1
  clear hb1 o
  have o := hF.own; simp only [World.size_alloc, World.size_drew, World.size_setCell, List.mem_cons, List.not_mem_nil, or_false, forall_eq_or_imp, forall_eq, At, and_true, Nat.zero_add, Nat.reduceAdd, List.set_cons_zero, List.set_cons_succ] at o
  by_cases k1 : RtOk f b P lk M
  · have d1 : decide (RtOk f b P lk M) = true := by simp [k1]
    go_wp2_with fail
    refine (iRouteOk_any g c lk2 _ _ P2 M2 a _ (Rows.below HP2.out hF.kp) (Rows.below HM2.out hF.kp) (HE.out.below hF.kp)).mono ?_; rintro e w2 ⟨rfl, hb1⟩
    replace hF := hF.below hb1
    clear hb1 o
    by_cases k2 : RtOk g c P2 lk2 M2
    · have d2 : decide (RtOk g c P2 lk2 M2) = true := by simp [k2]
      have hr : Hid (RT f b lk P M g c lk2 P2 M2 = rtc f b lk P M g c lk2 P2 M2) := if_pos ⟨k1, k2⟩
      clear k1 k2
      go_wp2
      have oc := fun x : Cl _ w2 => (Fb.cl hF x).own; simp only [World.size_alloc, World.size_drew, World.size_setCell, List.mem_cons, List.not_mem_nil, or_false, forall_eq_or_imp, forall_eq, At, and_true, Nat.zero_add, Nat.reduceAdd, List.set_cons_zero, List.set_cons_succ] at oc
      have c5 := Lib.hid (fun x : Cl w2.heap.size w2 => (show Ints x.W _ P ∧ Ints x.W _ M ∧ Ints x.W _ P2 ∧ Ints x.W _ M2 ∧ EPath x.W a from ⟨Rows.below HP.out (hF.cl x).kp, Rows.below HM.out (hF.cl x).kp, Rows.below HP2.out (hF.cl x).kp, Rows.below HM2.out (hF.cl x).kp, HE.out.below (hF.cl x).kp⟩))
      refine wp_region_tail 27 (by kernel_rfl) (by kernel_rfl) ?_
      simp only [List.take_succ_cons, List.take_zero, List.drop_succ_cons, List.drop_zero]
      repeat (any_goals (first | go_big_quiet_step ((first | (go_at_call 60; exact Calls.cl (compareB _ _ _)) | (go_at_call 27; exact Calls.cl (iPathCmp_any _ _ P P2 a _ (c5.out _).1 (c5.out _).2.2.1 (c5.out _).2.2.2.2)) | (go_at_call 64; exact Calls.cl (iRangeCmp_any _ _ _ _ _)) | (go_at_call 61; exact Calls.cl (Compare_any _ _ M M2 _ (c5.out _).2.1 (c5.out _).2.2.2.1)))) | (refine wpQuiet_step (fun K hK => ?_); go_simp; split <;> (rename_i hg; refine hK _ ?_; clear hK K; simp only [hg, decide_true, decide_false]))))
      all_goals (refine wpQuiet_nil ?_; intro x)
      go_wp2_with (go_at_call 59; refine (or_five _ _ _ _ _ _).mono ?_; rintro e w' ⟨rfl, rfl⟩)
      go_ret
      exact ⟨by rw [hr.out]; rfl, ((hF.cl x).other _).kp⟩
    · have d2 : decide (RtOk g c P2 lk2 M2) = false := by simp [k2]
      have hr : Hid (RT f b lk P M g c lk2 P2 M2 = 0) := if_neg fun q => k2 q.2
      clear k1 k2
      go_wp2_with fail
      go_ret
      exact ⟨by rw [hr.out]; rfl, hF.kp⟩
  · have d1 : decide (RtOk f b P lk M) = false := by simp [k1]
    have hr : Hid (RT f b lk P M g c lk2 P2 M2 = 0) := if_neg fun q => k1 q.1
    clear k1
    go_wp2_with fail
    go_ret
    exact ⟨by rw [hr.out]; rfl, hF.kp⟩
def rts (f b lk : Int) (P M : List Int) (g c lk2 : Int) (P2 M2 : List Int) : Int := orz (icmp lk2 lk) (orz (pcmp P P2) (orz (rcmp f b g c) (pcmp M M2)))
theorem rts_is {f b lk g c lk2 : Int} {P M P2 M2 : List Int} (h1 : RtOk f b P lk M) (h2 : RtOk g c P2 lk2 M2) : rts f b lk P M g c lk2 P2 M2 = rtc f b lk P M g c lk2 P2 M2 := by
  unfold rts rtc
  rw [show PC P P2 = pcmp P P2 from if_pos ⟨h1.2.2.1, h2.2.2.1⟩, show RC f b g c = rcmp f b g c from if_pos ⟨h1.1, h2.1⟩]
  rfl
set_option maxHeartbeats 4000000 in
theorem l4Cmp_any (f b lk : Int) (pv mv : Value) (P M : List Int) (g c lk2 : Int) (pv2 mv2 : Value) (P2 M2 : List Int) (w : World) (hp : Ints w pv P) (hm : Ints w mv M) (hp2 : Ints w pv2 P2) (hm2 : Ints w mv2 M2) :
    Calls Tryd.prog 65 #[.agg #[.int .i64 f, .int .i64 b, pv, .int .i64 lk, mv], .agg #[.int .i64 g, .int .i64 c, pv2, .int .i64 lk2, mv2]] w fun e w' => e = .returned (.int .i64 (rts f b lk P M g c lk2 P2 M2)) ∧ Below w.heap.size w w' := by
  obtain ⟨o1, c1, rfl, -⟩ := hp.ex
  obtain ⟨o2, c2, rfl, -⟩ := hm.ex
  obtain ⟨o3, c3, rfl, -⟩ := hp2.ex
  obtain ⟨o4, c4, rfl, -⟩ := hm2.ex
  have hF := ((Fb.start w).alloc [.int .i64 f, .int .i64 b, .slice o1 P.length c1, .int .i64 lk, .slice o2 M.length c2] 29).alloc [.int .i64 g, .int .i64 c, .slice o3 P2.length c3, .int .i64 lk2, .slice o4 M2.length c4] 29
  have hb0 := hF.kp
  simp only [World.size_alloc] at hF
  replace hp := Rows.below hp hb0
  replace hm := Rows.below hm hb0
  replace hp2 := Rows.below hp2 hb0
  replace hm2 := Rows.below hm2 hb0
  clear hb0
  have o := hF.own; simp only [World.size_alloc, World.size_drew, World.size_setCell, List.mem_cons, List.not_mem_nil, or_false, forall_eq_or_imp, forall_eq, At, and_true, Nat.zero_add, Nat.reduceAdd, List.set_cons_zero, List.set_cons_succ] at o
  go_enter Tryd.func65, Tryd.ntmps65
  by_cases hlk : lk = lk2
  · subst hlk
    have hr : Hid (rts f b lk P M g c lk P2 M2 = orz (pcmp P P2) (orz (rcmp f b g c) (pcmp M M2))) := by
      show _ = _; unfold rts; rw [show icmp lk lk = 0 by simp [icmp]]; rfl
    obtain ⟨z1, hz1⟩ : ∃ z, pcmp P P2 = z := ⟨_, rfl⟩
    obtain ⟨z2, hz2⟩ : ∃ z, rcmp f b g c = z := ⟨_, rfl⟩
    rw [hz1, hz2] at hr
    have hnn : (lk != lk) = false := by simp
    by_cases e1 : z1 = 0
    · subst e1
      by_cases e2 : z2 = 0
      · subst e2
        have hr2 : Hid (rts f b lk P M g c lk P2 M2 = pcmp M M2) := hr.out
        have tok1 : True := trivial
        go_wp2_with (first | (go_at_call 62; clear tok1; go_must (refine (l3Cmp_any _ _ P P2 _ hp hp2).mono ?_); rintro e wx ⟨rfl, hbx⟩; replace hF := hF.below hbx; replace hm := Rows.below hm hbx; replace hm2 := Rows.below hm2 hbx; clear hbx o; have o := hF.own; simp only [World.size_alloc, World.size_drew, World.size_setCell, List.mem_cons, List.not_mem_nil, or_false, forall_eq_or_imp, forall_eq, At, and_true, Nat.zero_add, Nat.reduceAdd, List.set_cons_zero, List.set_cons_succ] at o) | (go_at_call 85; go_must (refine (l1Cmp_any _ _ _ _ _).mono ?_); rintro e wx ⟨rfl, hbx⟩; replace hF := hF.below hbx; replace hm := Rows.below hm hbx; replace hm2 := Rows.below hm2 hbx; clear hbx o; have o := hF.own; simp only [World.size_alloc, World.size_drew, World.size_setCell, List.mem_cons, List.not_mem_nil, or_false, forall_eq_or_imp, forall_eq, At, and_true, Nat.zero_add, Nat.reduceAdd, List.set_cons_zero, List.set_cons_succ] at o) | (go_at_call 62; go_must (refine (l3Cmp_any _ _ M M2 _ hm hm2).mono ?_); rintro e wx ⟨rfl, hbx⟩; replace hF := hF.below hbx; clear hbx))
        go_ret
        exact ⟨by rw [hr2.out]; rfl, hF.kp⟩
      · have hr2 : Hid (rts f b lk P M g c lk P2 M2 = z2) := hr.out.trans (by simp [orz, e2])
        have d2 : (z2 != 0) = true := by simp [e2]
        go_wp2_with (first | (go_at_call 62; go_must (refine (l3Cmp_any _ _ P P2 _ hp hp2).mono ?_); rintro e wx ⟨rfl, hbx⟩; replace hF := hF.below hbx; clear hbx o; have o := hF.own; simp only [World.size_alloc, World.size_drew, World.size_setCell, List.mem_cons, List.not_mem_nil, or_false, forall_eq_or_imp, forall_eq, At, and_true, Nat.zero_add, Nat.reduceAdd, List.set_cons_zero, List.set_cons_succ] at o) | (go_at_call 85; go_must (refine (l1Cmp_any _ _ _ _ _).mono ?_); rintro e wx ⟨rfl, hbx⟩; replace hF := hF.below hbx; clear hbx o; have o := hF.own; simp only [World.size_alloc, World.size_drew, World.size_setCell, List.mem_cons, List.not_mem_nil, or_false, forall_eq_or_imp, forall_eq, At, and_true, Nat.zero_add, Nat.reduceAdd, List.set_cons_zero, List.set_cons_succ] at o))
        go_ret
        exact ⟨by rw [hr2.out]; rfl, hF.kp⟩
    · have hr2 : Hid (rts f b lk P M g c lk P2 M2 = z1) := hr.out.trans (by simp [orz, e1])
      have d2 : (z1 != 0) = true := by simp [e1]
      go_wp2_with (first | (go_at_call 62; go_must (refine (l3Cmp_any _ _ P P2 _ hp hp2).mono ?_); rintro e wx ⟨rfl, hbx⟩; replace hF := hF.below hbx; clear hbx o; have o := hF.own; simp only [World.size_alloc, World.size_drew, World.size_setCell, List.mem_cons, List.not_mem_nil, or_false, forall_eq_or_imp, forall_eq, At, and_true, Nat.zero_add, Nat.reduceAdd, List.set_cons_zero, List.set_cons_succ] at o))
      go_ret
      exact ⟨by rw [hr2.out]; rfl, hF.kp⟩
  · have hnn : (lk != lk2) = true := by simp [hlk]
    by_cases hlt : lk2 < lk
    · have hr : Hid (rts f b lk P M g c lk2 P2 M2 = -1) := by
        show _ = _; unfold rts; rw [show icmp lk2 lk = -1 by unfold icmp; rw [if_pos hlt]]; rfl
      clear hlk
      go_wp2
      go_ret
      exact ⟨by rw [hr.out]; rfl, hF.kp⟩
    · have hr : Hid (rts f b lk P M g c lk2 P2 M2 = 1) := by
        show _ = _; unfold rts; rw [show icmp lk2 lk = 1 by unfold icmp; rw [if_neg hlt, if_pos (by omega)]]; rfl
      clear hlk
      go_wp2
      go_ret
      exact ⟨by rw [hr.out]; rfl, hF.kp⟩
theorem sRouteCmp_any (f b lk : Int) (pv mv : Value) (P M : List Int) (g c lk2 : Int) (pv2 mv2 : Value) (P2 M2 : List Int) (w : World) (hp : Ints w pv P) (hm : Ints w mv M) (hp2 : Ints w pv2 P2) (hm2 : Ints w mv2 M2) :
    Calls Tryd.prog 31 #[.agg #[.int .i64 f, .int .i64 b, pv, .int .i64 lk, mv], .agg #[.int .i64 g, .int .i64 c, pv2, .int .i64 lk2, mv2]] w fun e w' => e = .returned (.int .i64 (RT f b lk P M g c lk2 P2 M2)) ∧ Below w.heap.size w w' := by
  obtain ⟨o1, c1, rfl, -⟩ := hp.ex
  obtain ⟨o2, c2, rfl, -⟩ := hm.ex
  obtain ⟨o3, c3, rfl, -⟩ := hp2.ex
  obtain ⟨o4, c4, rfl, -⟩ := hm2.ex
  have hF := ((Fb.start w).alloc [.int .i64 f, .int .i64 b, .slice o1 P.length c1, .int .i64 lk, .slice o2 M.length c2] 29).alloc [.int .i64 g, .int .i64 c, .slice o3 P2.length c3, .int .i64 lk2, .slice o4 M2.length c4] 29
  have hb0 := hF.kp
  simp only [World.size_alloc] at hF
  replace hp := Rows.below hp hb0
  replace hm := Rows.below hm hb0
  replace hp2 := Rows.below hp2 hb0
  replace hm2 := Rows.below hm2 hb0
  clear hb0
  have o := hF.own; simp only [World.size_alloc, World.size_drew, World.size_setCell, List.mem_cons, List.not_mem_nil, or_false, forall_eq_or_imp, forall_eq, At, and_true, Nat.zero_add, Nat.reduceAdd, List.set_cons_zero, List.set_cons_succ] at o
  go_enter Tryd.func31, Tryd.ntmps31
  go_wp2_with fail
  refine (sRouteOk_any f b lk _ _ P M _ hp hm).mono ?_; rintro e wx ⟨rfl, hbx⟩
  replace hF := hF.below hbx
  replace hp := Rows.below hp hbx
  replace hm := Rows.below hm hbx
  replace hp2 := Rows.below hp2 hbx
  replace hm2 := Rows.below hm2 hbx
  clear hbx o
  have o := hF.own; simp only [World.size_alloc, World.size_drew, World.size_setCell, List.mem_cons, List.not_mem_nil, or_false, forall_eq_or_imp, forall_eq, At, and_true, Nat.zero_add, Nat.reduceAdd, List.set_cons_zero, List.set_cons_succ] at o
  by_cases k1 : RtOk f b P lk M
  · have d1 : decide (RtOk f b P lk M) = true := by simp [k1]
    by_cases k2 : RtOk g c P2 lk2 M2
    · have d2 : decide (RtOk g c P2 lk2 M2) = true := by simp [k2]
      have hr : Hid (RT f b lk P M g c lk2 P2 M2 = rts f b lk P M g c lk2 P2 M2) := (show RT f b lk P M g c lk2 P2 M2 = _ from if_pos ⟨k1, k2⟩).trans (rts_is k1 k2).symm
      clear k1 k2
      go_wp2_with (first | (go_at_call 14; go_must (refine (sRouteOk_any g c lk2 _ _ P2 M2 _ hp2 hm2).mono ?_); rintro e wx ⟨rfl, hbx⟩; replace hF := hF.below hbx; replace hp := Rows.below hp hbx; replace hm := Rows.below hm hbx; replace hp2 := Rows.below hp2 hbx; replace hm2 := Rows.below hm2 hbx; clear hbx o; have o := hF.own; simp only [World.size_alloc, World.size_drew, World.size_setCell, List.mem_cons, List.not_mem_nil, or_false, forall_eq_or_imp, forall_eq, At, and_true, Nat.zero_add, Nat.reduceAdd, List.set_cons_zero, List.set_cons_succ] at o) | (go_at_call 65; go_must (refine (l4Cmp_any f b lk _ _ P M g c lk2 _ _ P2 M2 _ hp hm hp2 hm2).mono ?_); rintro e wx ⟨rfl, hbx⟩; replace hF := hF.below hbx; replace hp := Rows.below hp hbx; replace hm := Rows.below hm hbx; replace hp2 := Rows.below hp2 hbx; replace hm2 := Rows.below hm2 hbx; clear hbx o; have o := hF.own; simp only [World.size_alloc, World.size_drew, World.size_setCell, List.mem_cons, List.not_mem_nil, or_false, forall_eq_or_imp, forall_eq, At, and_true, Nat.zero_add, Nat.reduceAdd, List.set_cons_zero, List.set_cons_succ] at o))
      go_ret
      exact ⟨by rw [hr.out]; rfl, hF.kp⟩
    · have d2 : decide (RtOk g c P2 lk2 M2) = false := by simp [k2]
      have hr : Hid (RT f b lk P M g c lk2 P2 M2 = 0) := if_neg fun q => k2 q.2
      clear k1 k2
      go_wp2_with (first | (go_at_call 14; go_must (refine (sRouteOk_any g c lk2 _ _ P2 M2 _ hp2 hm2).mono ?_); rintro e wx ⟨rfl, hbx⟩; replace hF := hF.below hbx; replace hp := Rows.below hp hbx; replace hm := Rows.below hm hbx; replace hp2 := Rows.below hp2 hbx; replace hm2 := Rows.below hm2 hbx; clear hbx o; have o := hF.own; simp only [World.size_alloc, World.size_drew, World.size_setCell, List.mem_cons, List.not_mem_nil, or_false, forall_eq_or_imp, forall_eq, At, and_true, Nat.zero_add, Nat.reduceAdd, List.set_cons_zero, List.set_cons_succ] at o))
      go_ret
      exact ⟨by rw [hr.out]; rfl, hF.kp⟩
  · have d1 : decide (RtOk f b P lk M) = false := by simp [k1]
    have hr : Hid (RT f b lk P M g c lk2 P2 M2 = 0) := if_neg fun q => k1 q.1
    clear k1
    go_wp2_with fail
    go_ret
    exact ⟨by rw [hr.out]; rfl, hF.kp⟩
end Go.Proofs.YtgegmampnpgcaaaDoor
