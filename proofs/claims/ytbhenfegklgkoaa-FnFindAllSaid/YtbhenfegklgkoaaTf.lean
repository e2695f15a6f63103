/- Tables: dropping a range, by the reference; TablePut and TableDrop of the reference; the same tables; copies. -/
import Derived.Test.YtbhenfegklgkoaaTe
import Derived.Test.YtbhenfegklgkoaaTd
import Derived.Test.YtbhenfegklgkoaaB6
import Derived.Test.YtbhenfegklgkoaaKe
set_option linter.unusedSimpArgs false
set_option linter.unusedVariables false
namespace Go.Proofs.Ytbhenfegklgkoaa
open Go.RowKit

def Tb (w : World) (v : Value) (T : List Ent) : Prop := Ents w v T ∧ (v = .slice none 0 0 ∨ ∃ b off n c, v = .slice (some ⟨b, off, none⟩) n c)
theorem Tb.below {w w' : World} {v : Value} {T : List Ent} (h : Tb w v T) (hb : Below w.heap.size w w') : Tb w' v T := ⟨h.1.below hb, h.2⟩
theorem Tb.alloc {w : World} {v : Value} {T : List Ent} (h : Tb w v T) (o : Obj) : Tb (w.alloc o) v T := h.below ((Below.refl _ _).alloc (Nat.le_refl _) _)
theorem Own.tb {E : TypeId} {w : World} {B : Nat} {v : Value} {T : List Ent} (h : Own E w B v 3 encE T) : Tb w v T := by
  refine ⟨h.rows (fun _ => rfl), ?_⟩
  obtain ⟨_, ⟨e1, _⟩ | ⟨g, cap, cur, e1, _⟩⟩ := h
  · exact Or.inl e1
  · exact Or.inr ⟨_, _, _, _, e1⟩
theorem tb_nil (w : World) : Tb w (.slice none 0 0) [] := ⟨Rows.nil _ _ _ (by omega) _ _, Or.inl rfl⟩
theorem Tb.sl {w : World} {v : Value} {T : List Ent} (h : Tb w v T) : ∃ ao n c, v = .slice ao n c ∧ Hid (T.length = n) := by
  obtain ⟨ao, cap, e, _⟩ := h.1.ex
  exact ⟨ao, _, cap, e, rfl⟩
theorem Tb.cases {w : World} {v : Value} {T : List Ent} (h : Tb w v T) : (v = .slice none 0 0 ∧ T = []) ∨ ∃ b off n c, v = .slice (some ⟨b, off, none⟩) n c ∧ Hid (T.length = n) ∧ n ≤ c ∧ c ≤ 9223372036854775807 := by
  obtain ⟨h1, rfl | ⟨b, off, n, c, rfl⟩⟩ := h
  · left
    obtain ⟨ao, cap, e, _⟩ := h1.ex
    injection e with _ e _
    exact ⟨rfl, List.length_eq_zero_iff.1 e.symm⟩
  · right
    obtain ⟨ao, cap, e, h2, h3, _⟩ := h1.ex
    injection e with _ e e'
    exact ⟨b, off, n, c, rfl, e.symm, by omega, by omega⟩
set_option maxHeartbeats 1000000 in
theorem Clone_any (v : Value) (T : List Ent) (w : World) (hv : Tb w v T) (hT : T.length ≤ 1000) :
    Calls Try.prog 59 #[v] w fun e w' => ∃ u, e = .returned u ∧ Own 29 w' w.heap.size u 3 encE T ∧ Below w.heap.size w w' := by
  rcases hv.cases with ⟨rfl, rfl⟩ | ⟨b, off, n, c, rfl, hn, hnc, hcc⟩
  · have hnil := sl_nil none 0 0
    go_enter Try.func59, Try.ntmps59
    go_wp2
    go_ret
    exact ⟨_, rfl, Own.nil _ _ _ _ _, Below.refl _ _⟩
  · have hn1 : n ≤ 1000 := by have := hn.out; omega
    have hF := (Fb.start w).other (.cells #[] 29)
    have hO : Own 29 (w.alloc (.cells #[] 29)) w.heap.size (.slice (some ⟨w.heap.size, 0, none⟩) 0 0) 3 encE [] := Own.made _ _ _ _ _ (Nat.le_refl _)
    have hV := Lib.hid (hv.1.alloc (.cells #[] 29))
    have hnil := sl_nil (some ⟨b, off, none⟩) n c
    clear hv
    go_enter Try.func59, Try.ntmps59
    go_wp2_with (at_builtin; refine wpList_apps rfl _ _ 23 rfl 29 (.agg #[.int .i64 0, .int .i64 0, .int .i64 0]) 3 24 Try.underlying23 infoEnt rfl (by decide) (by decide) w.heap.size encE (fun _ => rfl) (fun _ u hu => by simp [encE] at hu; rcases hu with rfl | rfl | rfl <;> rfl) _ [] rfl hO b off n c T rfl hV.out (by simp; omega) (by simp) ?_; intro v' wx hO1 hg1 hb1 hf1 hz1; replace hF := hF.belowB hb1 (Nat.le_refl _) (by simp))
    go_ret
    exact ⟨_, rfl, hO1, hF.kp⟩
set_option maxHeartbeats 2000000 in
theorem l2Drop_any (v : Value) (T : List Ent) (f b : Int) (w : World) (hv : Ents w v T) (hT : T.length ≤ 100) :
    Calls Try.prog 63 #[v, .agg #[.int .i64 f, .int .i64 b]] w fun e w' => ∃ u, e = .returned u ∧ Own 29 w' w.heap.size u 3 encE (drp T (f, b)) ∧ Below w.heap.size w w' := by
  have hF := ((Fb.start w).alloc [.int .i64 f, .int .i64 b] 27).other (.cells #[] 29)
  have hO : Own 29 ((w.alloc (.cells #[.int .i64 f, .int .i64 b] 27)).alloc (.cells #[] 29)) (w.heap.size + 1) (.slice (some ⟨w.heap.size + 1, 0, none⟩) 0 0) 3 encE [] := by
    have := Own.made 29 (w.alloc (.cells #[.int .i64 f, .int .i64 b] 27)) (w.heap.size + 1) 3 encE (by simp)
    rw [show (w.alloc (.cells #[.int .i64 f, .int .i64 b] 27)).heap.size = w.heap.size + 1 by simp] at this
    exact this
  obtain ⟨n, cap, hn, hnc, hcap, ⟨hn0, ao, rfl⟩ | ⟨hn0, b0, off, rfl, hc⟩⟩ := hv.cases
  all_goals
    have hn1 : n ≤ 100 := by have := hn.out; omega
    clear hv
    go_enter Try.func63, Try.ntmps63
    go_wp2
    go_loopw [5, 6] (fun s5 s6 wr => ∃ (k : Nat), k ≤ n ∧ s6 = .int .i64 k ∧ Own 29 wr (w.heap.size + 1) s5 3 encE (drp (T.take k) (f, b)) ∧ Fb w wr [(w.heap.size, [.int .i64 f, .int .i64 b])] ∧ w.heap.size + 1 ≤ wr.heap.size) (fun _ s6 _ => n - (intOf s6).toNat)
    case atStart => exact ⟨0, Nat.zero_le _, rfl, hO, hF, by simp⟩
    case round =>
      clear hF hO
      obtain ⟨k, hk, rfl, hO, hF, hsz⟩ := hrel
      by_cases hlt : k < n
      · try (exfalso; omega)
        all_goals
          obtain ⟨y, hy⟩ := get_of hn.out hlt
          obtain ⟨c0, c1, c2⟩ := ents3 hc.out hy
          have hss : Hid (drp (T.take (k + 1)) (f, b) = drp (T.take k) (f, b) ++ (if offR (f, b) y then [y] else [])) := by
            show _ = _; unfold drp; rw [take_succ' hy, List.filter_append, List.filter_cons]; rfl
          have hdl := drp_len (T.take k) (f, b)
          rw [List.length_take] at hdl
          clear hy
          obtain ⟨yf, yb, yv⟩ := y
          dsimp only at c0 c1 c2
          have HB0 := Lib.hid c0
          have HB1 := Lib.hid c1
          have HB2 := Lib.hid c2
          have cc0 := fun x : Cl wr.heap.size wr => Cl.old hF x HB0.out
          have cc1 := fun x : Cl wr.heap.size wr => Cl.old hF x HB1.out
          have oc := fun x : Cl _ wr => (Fb.cl hF x).own; simp only [World.size_alloc, World.size_drew, World.size_setCell, List.mem_cons, List.not_mem_nil, or_false, forall_eq_or_imp, forall_eq, At, and_true, Nat.zero_add, Nat.reduceAdd, List.set_cons_zero, List.set_cons_succ] at oc
          clear c0 c1 c2
          have hol : (drp (T.take k) (f, b)).length ≤ 101 := by omega
          obtain ⟨q, hq⟩ : ∃ q, Hid (offR (f, b) (yf, yb, yv) = q) := ⟨_, rfl⟩
          have hneq : ∀ w, (binOp .neq 27 (.agg #[.int .i64 yf, .int .i64 yb]) (.agg #[.int .i64 f, .int .i64 b])).run Try.prog w = .ok (.bool q) w := fun w => by rw [rng_neq]; rw [← hq.out]; rfl
          rw [hq.out] at hss
          cases q
          · go_wp2
            first | refine wp_region_new (by kernel_rfl) (by kernel_rfl) ?_ | refine wp_region_lex ?_
            repeat (any_goals (first | go_big_quiet_step ((fail)) | (refine wpQuiet_step (fun K hK => ?_); go_simp; split <;> (rename_i hg; refine hK _ ?_; clear hK K; simp only [hg, decide_true, decide_false]))))
            all_goals (refine wpQuiet_nil ?_; intro x)
            go_wp2
            go_roundw
            case rel => exact ⟨k + 1, by omega, by go_num, by rw [hss.out]; simpa using hO.below x.below, hF.cl x, by have := x.below.size; omega⟩
            case measure => simp [intOf]; omega
          · go_wp2
            first | refine wp_region_new (by kernel_rfl) (by kernel_rfl) ?_ | refine wp_region_lex ?_
            repeat (any_goals (first | go_big_quiet_step ((fail)) | (refine wpQuiet_step (fun K hK => ?_); go_simp; split <;> (rename_i hg; refine hK _ ?_; clear hK K; simp only [hg, decide_true, decide_false]))))
            all_goals (refine wpQuiet_nil ?_; intro x)
            replace hF := hF.cl x
            replace hO := hO.below x.below
            have hsw := x.below.size
            have c0 := hF.old HB0.out
            have c1 := hF.old HB1.out
            have c2 := hF.old HB2.out
            clear hneq
            go_wp2_with ((at_builtin; refine wpList_app rfl _ _ 23 rfl 29 (.agg #[.int .i64 0, .int .i64 0, .int .i64 0]) 3 24 Try.underlying23 infoEnt rfl (by decide) (by decide) (w.heap.size + 1) encE _ _ rfl (hO.alloc _) (((yf, yb, yv) : Ent)) ⟨_, 0, none⟩ 1 rfl rfl (cells_new _ _ _) (by simp [encE, Value.oneCell']) (by first | omega | (simp only [List.length_append, List.length_cons, List.length_nil]; omega)) (by simp only [World.size_alloc]; omega) ?_; intro v' wx hO1 hg1 hb1 hf1; (have hsx := hb1.size; simp only [World.size_alloc] at hsx; replace hO := hO1; replace hF := (hF.other _).belowB hb1 (by omega) (by simp); clear hO1 hg1 hb1 hf1 c0 c1 c2)))
            go_roundw
            case rel => exact ⟨k + 1, by omega, by go_num, by rw [hss.out]; exact hO, hF, by omega⟩
            case measure => simp [intOf]; omega
      · obtain rfl : k = n := by omega
        have hte : Hid (T.take k = T) := by show _ = _; exact List.take_of_length_le (by rw [hn.out]; omega)
        rw [hte.out] at hO
        go_wp2
        go_ret
        exact ⟨_, rfl, hO.base (by omega), hF.kp⟩
theorem tdrp_yes {T : List Ent} {f b : Int} (h1 : TOk T) (h2 : ROk f b) : tdrp T (f, b) = (drp T (f, b), decide ((drp T (f, b)).length < T.length)) := by unfold tdrp; rw [if_pos ⟨h1, h2⟩]
theorem tdrp_no {T : List Ent} {f b : Int} (h : ¬ (TOk T ∧ ROk f b)) : tdrp T (f, b) = ([], false) := by unfold tdrp; rw [if_neg h]
set_option maxHeartbeats 1000000 in
theorem sTableDrop_any (v : Value) (T : List Ent) (f b : Int) (w : World) (hv : Tb w v T) (hT : T.length ≤ 100) :
    Calls Try.prog 37 #[v, .agg #[.int .i64 f, .int .i64 b]] w fun e w' => ∃ u, e = .returned (.tuple #[u, .bool (tdrp T (f, b)).2]) ∧ Own 29 w' w.heap.size u 3 encE (tdrp T (f, b)).1 ∧ Below w.heap.size w w' := by
  have hF := (Fb.start w).alloc [.int .i64 f, .int .i64 b] 27
  have hV := hv.alloc (.cells #[.int .i64 f, .int .i64 b] 27)
  obtain ⟨ao, n, c, rfl, hn⟩ := hv.sl
  clear hv
  have o := hF.own; simp only [World.size_alloc, World.size_drew, World.size_setCell, List.mem_cons, List.not_mem_nil, or_false, forall_eq_or_imp, forall_eq, At, and_true, Nat.zero_add, Nat.reduceAdd, List.set_cons_zero, List.set_cons_succ] at o
  by_cases h1 : TOk T
  · have d1 : decide (TOk T) = true := by simp [h1]
    by_cases h2 : ROk f b
    · have d2 : decide (ROk f b) = true := by simp [h2]
      rw [tdrp_yes h1 h2]
      clear h1 h2
      go_enter Try.func37, Try.ntmps37
      go_wp2_with (first | (go_at_call 17; go_must (refine (sTableOk_any _ T _ hV.1).mono ?_); rintro e wx ⟨rfl, hbx⟩; replace hF := Fb.below (by repeat (first | assumption | apply Fb.alloc_1 | apply Fb.alloc_2 | apply Fb.alloc_3 | apply Fb.alloc_4 | apply Fb.alloc_5 | apply Fb.alloc_8 | apply Fb.drew | apply Fb.drewN | apply Fb.other)) hbx; replace hV := hV.below hbx; clear hbx; (try clear o); have o := hF.own; simp only [World.size_alloc, World.size_drew, World.size_setCell, List.mem_cons, List.not_mem_nil, or_false, forall_eq_or_imp, forall_eq, At, and_true, Nat.zero_add, Nat.reduceAdd, List.set_cons_zero, List.set_cons_succ] at o) | (go_at_call 38; go_must (refine (sRangeOk_any _ _ _).mono ?_); rintro e wx ⟨rfl, hbx⟩; replace hF := Fb.below (by repeat (first | assumption | apply Fb.alloc_1 | apply Fb.alloc_2 | apply Fb.alloc_3 | apply Fb.alloc_4 | apply Fb.alloc_5 | apply Fb.alloc_8 | apply Fb.drew | apply Fb.drewN | apply Fb.other)) hbx; replace hV := hV.below hbx; clear hbx; (try clear o); have o := hF.own; simp only [World.size_alloc, World.size_drew, World.size_setCell, List.mem_cons, List.not_mem_nil, or_false, forall_eq_or_imp, forall_eq, At, and_true, Nat.zero_add, Nat.reduceAdd, List.set_cons_zero, List.set_cons_succ] at o))
      refine (l2Drop_any _ T _ _ _ hV.1 hT).mono ?_; rintro e wy ⟨u, rfl, hO, hby⟩
      have hsy := hF.kp.size
      obtain ⟨al, cl, hsl⟩ := hO.sl
      subst hsl
      obtain ⟨t, ht⟩ : ∃ t, Hid ((drp T (f, b)).length = t) := ⟨_, rfl⟩
      have hde : Hid (decide ((drp T (f, b)).length < T.length) = decide (t < n)) := by
        show _ = _; rw [ht.out, hn.out]
      rw [ht.out] at hO ⊢
      go_wp2
      go_ret2
      exact ⟨.slice al t cl, by dsimp only; rw [hde.out]; rfl, hO.base hsy, (hF.below hby).kp⟩
    · have d2 : decide (ROk f b) = false := by simp [h2]
      rw [tdrp_no (fun g => h2 g.2)]
      clear h1 h2
      go_enter Try.func37, Try.ntmps37
      go_wp2_with (first | (go_at_call 17; go_must (refine (sTableOk_any _ T _ hV.1).mono ?_); rintro e wx ⟨rfl, hbx⟩; replace hF := Fb.below (by repeat (first | assumption | apply Fb.alloc_1 | apply Fb.alloc_2 | apply Fb.alloc_3 | apply Fb.alloc_4 | apply Fb.alloc_5 | apply Fb.alloc_8 | apply Fb.drew | apply Fb.drewN | apply Fb.other)) hbx; replace hV := hV.below hbx; clear hbx; (try clear o); have o := hF.own; simp only [World.size_alloc, World.size_drew, World.size_setCell, List.mem_cons, List.not_mem_nil, or_false, forall_eq_or_imp, forall_eq, At, and_true, Nat.zero_add, Nat.reduceAdd, List.set_cons_zero, List.set_cons_succ] at o) | (go_at_call 38; go_must (refine (sRangeOk_any _ _ _).mono ?_); rintro e wx ⟨rfl, hbx⟩; replace hF := Fb.below (by repeat (first | assumption | apply Fb.alloc_1 | apply Fb.alloc_2 | apply Fb.alloc_3 | apply Fb.alloc_4 | apply Fb.alloc_5 | apply Fb.alloc_8 | apply Fb.drew | apply Fb.drewN | apply Fb.other)) hbx; replace hV := hV.below hbx; clear hbx; (try clear o); have o := hF.own; simp only [World.size_alloc, World.size_drew, World.size_setCell, List.mem_cons, List.not_mem_nil, or_false, forall_eq_or_imp, forall_eq, At, and_true, Nat.zero_add, Nat.reduceAdd, List.set_cons_zero, List.set_cons_succ] at o))
      go_ret2
      exact ⟨_, rfl, Own.made _ _ _ _ _ hF.kp.size, (hF.other _).kp⟩
  · have d1 : decide (TOk T) = false := by simp [h1]
    rw [tdrp_no (fun g => h1 g.1)]
    clear h1
    go_enter Try.func37, Try.ntmps37
    go_wp2_with (first | (go_at_call 17; go_must (refine (sTableOk_any _ T _ hV.1).mono ?_); rintro e wx ⟨rfl, hbx⟩; replace hF := Fb.below (by repeat (first | assumption | apply Fb.alloc_1 | apply Fb.alloc_2 | apply Fb.alloc_3 | apply Fb.alloc_4 | apply Fb.alloc_5 | apply Fb.alloc_8 | apply Fb.drew | apply Fb.drewN | apply Fb.other)) hbx; replace hV := hV.below hbx; clear hbx; (try clear o); have o := hF.own; simp only [World.size_alloc, World.size_drew, World.size_setCell, List.mem_cons, List.not_mem_nil, or_false, forall_eq_or_imp, forall_eq, At, and_true, Nat.zero_add, Nat.reduceAdd, List.set_cons_zero, List.set_cons_succ] at o) | (go_at_call 38; go_must (refine (sRangeOk_any _ _ _).mono ?_); rintro e wx ⟨rfl, hbx⟩; replace hF := Fb.below (by repeat (first | assumption | apply Fb.alloc_1 | apply Fb.alloc_2 | apply Fb.alloc_3 | apply Fb.alloc_4 | apply Fb.alloc_5 | apply Fb.alloc_8 | apply Fb.drew | apply Fb.drewN | apply Fb.other)) hbx; replace hV := hV.below hbx; clear hbx; (try clear o); have o := hF.own; simp only [World.size_alloc, World.size_drew, World.size_setCell, List.mem_cons, List.not_mem_nil, or_false, forall_eq_or_imp, forall_eq, At, and_true, Nat.zero_add, Nat.reduceAdd, List.set_cons_zero, List.set_cons_succ] at o))
    go_ret2
    exact ⟨_, rfl, Own.made _ _ _ _ _ hF.kp.size, (hF.other _).kp⟩
theorem tput_yes {T : List Ent} {e : Ent} (h1 : TOk T) (h2 : EP e) : tput T e = (if 12 < (ins e T).length then (T, false) else (ins e T, true)) := by unfold tput; rw [if_pos ⟨h1, h2⟩]
theorem tput_no {T : List Ent} {e : Ent} (h : ¬ (TOk T ∧ EP e)) : tput T e = ([], false) := by unfold tput; rw [if_neg h]
set_option maxHeartbeats 2000000 in
theorem sTablePut_any (v : Value) (T : List Ent) (f b g : Int) (w : World) (hv : Tb w v T) (hT : T.length ≤ 100) :
    Calls Try.prog 28 #[v, .agg #[.int .i64 f, .int .i64 b, .int .i64 g]] w fun e w' => ∃ u, e = .returned (.tuple #[u, .bool (tput T (f, b, g)).2]) ∧ Own 29 w' w.heap.size u 3 encE (tput T (f, b, g)).1 ∧ Below w.heap.size w w' := by
  have hF := (Fb.start w).alloc [.int .i64 f, .int .i64 b, .int .i64 g] 29
  have hV := hv.alloc (.cells #[.int .i64 f, .int .i64 b, .int .i64 g] 29)
  have o := hF.own; simp only [World.size_alloc, World.size_drew, World.size_setCell, List.mem_cons, List.not_mem_nil, or_false, forall_eq_or_imp, forall_eq, At, and_true, Nat.zero_add, Nat.reduceAdd, List.set_cons_zero, List.set_cons_succ] at o
  by_cases h1 : TOk T
  · have d1 : decide (TOk T) = true := by simp [h1]
    by_cases h2 : EP3 f b g
    · have d2 : decide (EP3 f b g) = true := by simp [h2]
      have hd := Lib.hid (tput_yes (e := (f, b, g)) h1 h2)
      have hpi := Lib.hid (put_ins (tok_srt h1) (f, b, g))
      have hT0 : Hid (0 < T.length ∨ (ins (f, b, g) T).length ≤ 12) := by
        by_cases hz : 0 < T.length
        · exact Or.inl hz
        · right; have := ins_len (f, b, g) T; omega
      obtain ⟨ao, n, c, rfl, hn⟩ := hv.sl
      clear h1 h2 hv
      go_enter Try.func28, Try.ntmps28
      go_wp2_with (first | (go_at_call 17; go_must (refine (sTableOk_any _ T _ hV.1).mono ?_); rintro e wx ⟨rfl, hbx⟩; replace hF := Fb.below (by repeat (first | assumption | apply Fb.alloc_1 | apply Fb.alloc_2 | apply Fb.alloc_3 | apply Fb.alloc_4 | apply Fb.alloc_5 | apply Fb.alloc_8 | apply Fb.drew | apply Fb.drewN | apply Fb.other)) hbx; replace hV := hV.below hbx; clear hbx; (try clear o); have o := hF.own; simp only [World.size_alloc, World.size_drew, World.size_setCell, List.mem_cons, List.not_mem_nil, or_false, forall_eq_or_imp, forall_eq, At, and_true, Nat.zero_add, Nat.reduceAdd, List.set_cons_zero, List.set_cons_succ] at o) | (go_at_call 46; go_must (refine (l2Entry_any _ _ _ _).mono ?_); rintro e wx ⟨rfl, hbx⟩; replace hF := Fb.below (by repeat (first | assumption | apply Fb.alloc_1 | apply Fb.alloc_2 | apply Fb.alloc_3 | apply Fb.alloc_4 | apply Fb.alloc_5 | apply Fb.alloc_8 | apply Fb.drew | apply Fb.drewN | apply Fb.other)) hbx; replace hV := hV.below hbx; clear hbx; (try clear o); have o := hF.own; simp only [World.size_alloc, World.size_drew, World.size_setCell, List.mem_cons, List.not_mem_nil, or_false, forall_eq_or_imp, forall_eq, At, and_true, Nat.zero_add, Nat.reduceAdd, List.set_cons_zero, List.set_cons_succ] at o))
      refine (l2Put_any _ T _ _ _ _ hV.1 hT).mono ?_; rintro e wy ⟨u, rfl, hO, hby⟩
      have hsy := hF.kp.size
      replace hF := hF.below hby
      replace hV := hV.below hby
      have hsy2 := hby.size
      have hwlt := o.2.2
      rw [hpi.out] at hO
      clear hpi hby o
      obtain ⟨al, cl, hsl⟩ := hO.sl
      subst hsl
      obtain ⟨t, ht⟩ : ∃ t, Hid ((ins (f, b, g) T).length = t) := ⟨_, rfl⟩
      rw [ht.out] at hO ⊢
      by_cases h12 : 12 < t
      · have d3 : decide ((12 : Int) < (t : Int)) = true := by simp; omega
        have d3' : decide (12 < t) = true := by simp [h12]
        have hr : Hid (tput T (f, b, g) = (T, false)) := by show _ = _; rw [hd.out, ht.out, if_pos h12]
        rcases hV.cases with ⟨e1, e2⟩ | ⟨bb, off, n', c', e1, hn', hnc, hcc⟩
        · exfalso
          rcases hT0.out with g0 | g0
          · rw [e2] at g0; simp at g0
          · rw [ht.out] at g0; omega
        · injection e1 with e1 e2 e3
          subst e1; subst e2; subst e3
          have hF2 := hF.other (.cells #[] 29)
          have hO2 : Own 29 (wy.alloc (.cells #[] 29)) wy.heap.size (.slice (some ⟨wy.heap.size, 0, none⟩) 0 0) 3 encE [] := Own.made _ _ _ _ _ (Nat.le_refl _)
          have hV2 := Lib.hid (hV.1.alloc (.cells #[] 29))
          have hn1 : n ≤ 1000 := by have := hn.out; omega
          clear hV hO h12
          go_wp2_with (at_builtin; refine wpList_apps rfl _ _ 23 rfl 29 (.agg #[.int .i64 0, .int .i64 0, .int .i64 0]) 3 24 Try.underlying23 infoEnt rfl (by decide) (by decide) wy.heap.size encE (fun _ => rfl) (fun _ u hu => by simp [encE] at hu; rcases hu with rfl | rfl | rfl <;> rfl) _ [] rfl hO2 bb off n c T rfl hV2.out (by simp; omega) (by simp) ?_; intro v' wx hO1 hg1 hb1 hf1 hz1; replace hF2 := hF2.belowB hb1 (by omega) (by simp; omega))
          go_ret2
          exact ⟨v', by rw [hr.out]; rfl, by rw [hr.out]; exact hO1.base (by omega), hF2.kp⟩
      · have d3 : decide ((12 : Int) < (t : Int)) = false := by simp; omega
        have d3' : decide (12 < t) = false := by simp; omega
        have hr : Hid (tput T (f, b, g) = (ins (f, b, g) T, true)) := by show _ = _; rw [hd.out, ht.out, if_neg h12]
        clear h12
        go_wp2
        go_ret2
        exact ⟨.slice al t cl, by rw [hr.out]; rfl, by rw [hr.out]; exact hO.base hsy, hF.kp⟩
    · have d2 : decide (EP3 f b g) = false := by simp [h2]
      rw [tput_no (e := (f, b, g)) (fun q => h2 q.2)]
      clear h1 h2
      obtain ⟨ao, n, c, rfl, hn⟩ := hv.sl
      go_enter Try.func28, Try.ntmps28
      go_wp2_with (first | (go_at_call 17; go_must (refine (sTableOk_any _ T _ hV.1).mono ?_); rintro e wx ⟨rfl, hbx⟩; replace hF := Fb.below (by repeat (first | assumption | apply Fb.alloc_1 | apply Fb.alloc_2 | apply Fb.alloc_3 | apply Fb.alloc_4 | apply Fb.alloc_5 | apply Fb.alloc_8 | apply Fb.drew | apply Fb.drewN | apply Fb.other)) hbx; replace hV := hV.below hbx; clear hbx; (try clear o); have o := hF.own; simp only [World.size_alloc, World.size_drew, World.size_setCell, List.mem_cons, List.not_mem_nil, or_false, forall_eq_or_imp, forall_eq, At, and_true, Nat.zero_add, Nat.reduceAdd, List.set_cons_zero, List.set_cons_succ] at o) | (go_at_call 46; go_must (refine (l2Entry_any _ _ _ _).mono ?_); rintro e wx ⟨rfl, hbx⟩; replace hF := Fb.below (by repeat (first | assumption | apply Fb.alloc_1 | apply Fb.alloc_2 | apply Fb.alloc_3 | apply Fb.alloc_4 | apply Fb.alloc_5 | apply Fb.alloc_8 | apply Fb.drew | apply Fb.drewN | apply Fb.other)) hbx; replace hV := hV.below hbx; clear hbx; (try clear o); have o := hF.own; simp only [World.size_alloc, World.size_drew, World.size_setCell, List.mem_cons, List.not_mem_nil, or_false, forall_eq_or_imp, forall_eq, At, and_true, Nat.zero_add, Nat.reduceAdd, List.set_cons_zero, List.set_cons_succ] at o))
      go_ret2
      exact ⟨_, rfl, Own.made _ _ _ _ _ hF.kp.size, (hF.other _).kp⟩
  · have d1 : decide (TOk T) = false := by simp [h1]
    rw [tput_no (e := (f, b, g)) (fun q => h1 q.1)]
    clear h1
    obtain ⟨ao, n, c, rfl, hn⟩ := hv.sl
    go_enter Try.func28, Try.ntmps28
    go_wp2_with (first | (go_at_call 17; go_must (refine (sTableOk_any _ T _ hV.1).mono ?_); rintro e wx ⟨rfl, hbx⟩; replace hF := Fb.below (by repeat (first | assumption | apply Fb.alloc_1 | apply Fb.alloc_2 | apply Fb.alloc_3 | apply Fb.alloc_4 | apply Fb.alloc_5 | apply Fb.alloc_8 | apply Fb.drew | apply Fb.drewN | apply Fb.other)) hbx; replace hV := hV.below hbx; clear hbx; (try clear o); have o := hF.own; simp only [World.size_alloc, World.size_drew, World.size_setCell, List.mem_cons, List.not_mem_nil, or_false, forall_eq_or_imp, forall_eq, At, and_true, Nat.zero_add, Nat.reduceAdd, List.set_cons_zero, List.set_cons_succ] at o) | (go_at_call 46; go_must (refine (l2Entry_any _ _ _ _).mono ?_); rintro e wx ⟨rfl, hbx⟩; replace hF := Fb.below (by repeat (first | assumption | apply Fb.alloc_1 | apply Fb.alloc_2 | apply Fb.alloc_3 | apply Fb.alloc_4 | apply Fb.alloc_5 | apply Fb.alloc_8 | apply Fb.drew | apply Fb.drewN | apply Fb.other)) hbx; replace hV := hV.below hbx; clear hbx; (try clear o); have o := hF.own; simp only [World.size_alloc, World.size_drew, World.size_setCell, List.mem_cons, List.not_mem_nil, or_false, forall_eq_or_imp, forall_eq, At, and_true, Nat.zero_add, Nat.reduceAdd, List.set_cons_zero, List.set_cons_succ] at o))
    go_ret2
    exact ⟨_, rfl, Own.made _ _ _ _ _ hF.kp.size, (hF.other _).kp⟩
theorem tb_ext {T U : List Ent} {k : Nat} {x y : Ent} (hx : T[k]? = some x) (hy : U[k]? = some y) (h : x ≠ y) : decide (T = U) = false :=
  decide_eq_false (fun e => h (by rw [e, hy] at hx; injection hx with hx; exact hx.symm))
theorem take_eq' {α : Type} {L K : List α} {k : Nat} {p q : α} (h0 : L.take k = K.take k) (h1 : L[k]? = some p) (h2 : K[k]? = some q) (h : p = q) : L.take (k + 1) = K.take (k + 1) := by
  rw [take_succ' h1, take_succ' h2, h0, h]
set_option maxHeartbeats 1000000 in
theorem lyTable_any (v1 v2 : Value) (L K : List Ent) (w : World) (h1 : Ents w v1 L) (h2 : Ents w v2 K) :
    Calls Try.prog 30 #[v1, v2] w fun e w' => e = .returned (.bool (decide (L = K))) ∧ Below w.heap.size w w' := by
  have hF := Fb.start w
  obtain ⟨n, cap, hn, hnc, hcap, hv1⟩ := h1.cases
  obtain ⟨m, cap2, hm, hmc, hcap2, hv2⟩ := h2.cases
  by_cases hnm : n = m
  · subst hnm
    have d1 : ((n : Int) != (n : Int)) = false := by simp
    clear h1 h2
    rcases hv1 with ⟨hn0, ao, rfl⟩ | ⟨hn0, b1, o1, rfl, hc1⟩
    all_goals rcases hv2 with ⟨hm0, bo, rfl⟩ | ⟨hm0, b2, o2, rfl, hc2⟩
    all_goals try (exfalso; omega)
    all_goals
      go_enter Try.func30, Try.ntmps30
      go_wp2
      go_loopw [5] (fun i wr => ∃ k : Nat, k ≤ n ∧ i = .int .i64 k ∧ Hid (L.take k = K.take k) ∧ Fb w wr []) (fun i _ => n - (intOf i).toNat)
      case atStart => exact ⟨0, Nat.zero_le _, rfl, by show _ = _; simp, hF⟩
      case round =>
        clear hF
        obtain ⟨k, hk, rfl, ht, hF⟩ := hrel
        by_cases hlt : k < n
        · try (exfalso; omega)
          all_goals
            obtain ⟨p, hp⟩ := get_of hn.out hlt
            obtain ⟨q, hq⟩ := get_of hm.out hlt
            have HP := Lib.hid hp
            have HQ := Lib.hid hq
            obtain ⟨p0, p1, p2⟩ := ents3 hc1.out hp
            obtain ⟨q0, q1, q2⟩ := ents3 hc2.out hq
            clear hp hq
            obtain ⟨pf, pb, pv⟩ := p
            obtain ⟨qf, qb, qv⟩ := q
            dsimp only at p0 p1 p2 q0 q1 q2
            have e0 := fun z : Cl wr.heap.size wr => Cl.old hF z p0
            have e1 := fun z : Cl wr.heap.size wr => Cl.old hF z p1
            have e2 := fun z : Cl wr.heap.size wr => Cl.old hF z p2
            have e3 := fun z : Cl wr.heap.size wr => Cl.old hF z q0
            have e4 := fun z : Cl wr.heap.size wr => Cl.old hF z q1
            have e5 := fun z : Cl wr.heap.size wr => Cl.old hF z q2
            clear p0 p1 p2 q0 q1 q2
            by_cases hpq : ((pf, pb, pv) : Ent) = (qf, qb, qv)
            · have hneq : ∀ w, (binOp .neq 29 (.agg #[.int .i64 pf, .int .i64 pb, .int .i64 pv]) (.agg #[.int .i64 qf, .int .i64 qb, .int .i64 qv])).run Try.prog w = .ok (.bool false) w := fun w => by
                injection hpq with a1 a2; injection a2 with a2 a3
                rw [ent_neq, a1, a2, a3]; simp
              have ht2 := Lib.hid (take_eq' ht.out HP.out HQ.out hpq)
              clear hpq
              go_wp2
              first | refine wp_region_new (by kernel_rfl) (by kernel_rfl) ?_ | refine wp_region_lex ?_
              repeat (any_goals (first | go_big_quiet_step ((fail)) | (refine wpQuiet_step (fun K hK => ?_); go_simp; split <;> (rename_i hg; refine hK _ ?_; clear hK K; simp only [hg, decide_true, decide_false]))))
              all_goals (refine wpQuiet_nil ?_; intro x)
              go_wp2
              go_roundw
              case rel => exact ⟨k + 1, by omega, by go_num, ht2, hF.cl x⟩
              case measure => simp [intOf]; omega
            · have hneq : ∀ w, (binOp .neq 29 (.agg #[.int .i64 pf, .int .i64 pb, .int .i64 pv]) (.agg #[.int .i64 qf, .int .i64 qb, .int .i64 qv])).run Try.prog w = .ok (.bool true) w := fun w => by
                rw [ent_neq]
                have : ((pf == qf && pb == qb) && pv == qv) = false := by
                  rw [Bool.eq_false_iff]; intro g
                  simp at g
                  exact hpq (by rw [g.1.1, g.1.2, g.2])
                rw [this]; rfl
              have ht2 := Lib.hid (tb_ext HP.out HQ.out hpq)
              clear hpq
              go_wp2
              first | refine wp_region_new (by kernel_rfl) (by kernel_rfl) ?_ | refine wp_region_lex ?_
              repeat (any_goals (first | go_big_quiet_step ((fail)) | (refine wpQuiet_step (fun K hK => ?_); go_simp; split <;> (rename_i hg; refine hK _ ?_; clear hK K; simp only [hg, decide_true, decide_false]))))
              all_goals (refine wpQuiet_nil ?_; intro x)
              go_wp2
              go_ret
              exact ⟨by rw [ht2.out]; rfl, (hF.cl x).kp⟩
        · have hd : Hid (decide (L = K) = true) := by
            have := ht.out
            rw [List.take_of_length_le (by rw [hn.out]; omega), List.take_of_length_le (by rw [hm.out]; omega)] at this
            exact decide_eq_true this
          go_wp2
          go_ret
          exact ⟨by rw [hd.out]; rfl, hF.kp⟩
  · have d1 : ((n : Int) != (m : Int)) = true := by simp; omega
    have hd : Hid (decide (L = K) = false) := decide_eq_false (fun e => hnm (by rw [← hn.out, ← hm.out, e]))
    obtain ⟨ao, rfl⟩ : ∃ ao, v1 = .slice ao n cap := by
      rcases hv1 with ⟨_, ao, rfl⟩ | ⟨_, b1, o1, rfl, _⟩
      · exact ⟨_, rfl⟩
      · exact ⟨_, rfl⟩
    obtain ⟨bo, rfl⟩ : ∃ ao, v2 = .slice ao m cap2 := by
      rcases hv2 with ⟨_, ao, rfl⟩ | ⟨_, b1, o1, rfl, _⟩
      · exact ⟨_, rfl⟩
      · exact ⟨_, rfl⟩
    clear h1 h2 hnm hv1 hv2
    go_enter Try.func30, Try.ntmps30
    go_wp2
    go_ret
    exact ⟨by rw [hd.out]; rfl, hF.kp⟩
end Go.Proofs.Ytbhenfegklgkoaa
