/- Does a route fit a clause: ClauseFits of both. -/
import Derived.Test.YtgegmampnpgcaaaDoorCf
set_option linter.unusedSimpArgs false
set_option linter.unusedVariables false
namespace Go.Proofs.YtgegmampnpgcaaaDoor
open Go.RowKit

def Fit (i n f b g c : Int) (P M : List Int) : Prop := i = 1 ∨ (i = 2 ∧ RIn g c f b) ∨ (i = 3 ∧ n ∈ M) ∨ (i = 4 ∧ n ∈ P) ∨ (i = 5 ∧ (P.length : Int) ≤ n)
instance (i n f b g c : Int) (P M : List Int) : Decidable (Fit i n f b g c P M) := by unfold Fit; infer_instance
def CF (i n f b l m k g c lk : Int) (P M : List Int) : Prop := COk i n f b l m k ∧ RtOk g c P lk M ∧ Fit i n f b g c P M
instance (i n f b l m k g c lk : Int) (P M : List Int) : Decidable (CF i n f b l m k g c lk P M) := by unfold CF; infer_instance
theorem cok_i {i n f b l m k : Int} (h : COk i n f b l m k) : i = 1 ∨ i = 2 ∨ i = 3 ∨ i = 4 ∨ i = 5 := by have := h.1; unfold Sub1 at this; omega
theorem fit_1 (n f b g c : Int) (P M : List Int) : Fit 1 n f b g c P M := Or.inl rfl
theorem fit_2 (n f b g c : Int) (P M : List Int) : Fit 2 n f b g c P M ↔ RIn g c f b := by unfold Fit; constructor <;> intro h <;> (first | omega | simp_all)
theorem fit_3 (n f b g c : Int) (P M : List Int) : Fit 3 n f b g c P M ↔ n ∈ M := by unfold Fit; simp
theorem fit_4 (n f b g c : Int) (P M : List Int) : Fit 4 n f b g c P M ↔ n ∈ P := by unfold Fit; simp
theorem fit_5 (n f b g c : Int) (P M : List Int) : Fit 5 n f b g c P M ↔ (P.length : Int) ≤ n := by unfold Fit; simp
set_option maxHeartbeats 8000000 in
theorem iClauseFits_any (i n f b l m k : Int) (rf : Bool) (g c lk : Int) (pv mv : Value) (P M : List Int) (a : Addr) (w : World) (hp : Ints w pv P) (hm : Ints w mv M) (hE : EPath w a) :
    Calls Tryd.prog 11 #[.agg #[.int .i64 i, .int .i64 n, .int .i64 f, .int .i64 b, .bool rf, .int .i64 l, .int .i64 m, .int .i64 k], .agg #[.int .i64 g, .int .i64 c, pv, .int .i64 lk, mv]] w fun e w' => e = .returned (.bool (decide (CF i n f b l m k g c lk P M))) ∧ Below w.heap.size w w' := by
  obtain ⟨o1, c1, rfl, -⟩ := hp.ex
  obtain ⟨o2, c2, rfl, -⟩ := hm.ex
  have hF := ((Fb.start w).alloc [.int .i64 i, .int .i64 n, .int .i64 f, .int .i64 b, .bool rf, .int .i64 l, .int .i64 m, .int .i64 k] 26).alloc [.int .i64 g, .int .i64 c, .slice o1 P.length c1, .int .i64 lk, .slice o2 M.length c2] 29
  simp only [World.size_alloc] at hF
  have HC := Lib.hid (fun x : Cl _ ((w.alloc (.cells #[.int .i64 i, .int .i64 n, .int .i64 f, .int .i64 b, .bool rf, .int .i64 l, .int .i64 m, .int .i64 k] 26)).alloc (.cells #[.int .i64 g, .int .i64 c, .slice o1 P.length c1, .int .i64 lk, .slice o2 M.length c2] 29)) => (show Ints x.W _ P ∧ Ints x.W _ M ∧ EPath x.W a from ⟨Rows.below hp (hF.cl x).kp, Rows.below hm (hF.cl x).kp, hE.below (hF.cl x).kp⟩))
  clear hp hm hE
  by_cases k1 : COk i n f b l m k
  · have d1 : decide (COk i n f b l m k) = true := by simp [k1]
    have HCO := Lib.hid (fun w => (show Calls Tryd.prog 39 #[.agg #[.int .i64 i, .int .i64 n, .int .i64 f, .int .i64 b, .bool rf, .int .i64 l, .int .i64 m, .int .i64 k]] w fun e w' => e = .returned (.bool true) ∧ Below w.heap.size w w' from by have := iClauseOk_any i n f b l m k rf w; rwa [d1] at this))
    by_cases k2 : RtOk g c P lk M
    · have d2 : decide (RtOk g c P lk M) = true := by simp [k2]
      have HRO := Lib.hid (fun (w : World) (g1 : Ints w (.slice o1 P.length c1) P) (g2 : Ints w (.slice o2 M.length c2) M) (gE : EPath w a) => (show Calls Tryd.prog 34 #[.agg #[.int .i64 g, .int .i64 c, .slice o1 P.length c1, .int .i64 lk, .slice o2 M.length c2]] w fun e w' => e = .returned (.bool true) ∧ Below w.heap.size w w' from by have := iRouteOk_any g c lk _ _ P M a w g1 g2 gE; rwa [d2] at this))
      have HT := Lib.hid (fun w => testOf_any i n f b l m k rf w)
      have hr0 : Hid (decide (CF i n f b l m k g c lk P M) = decide (Fit i n f b g c P M)) := decide_eq_decide.2 ⟨fun q => q.2.2, fun q => ⟨k1, k2, q⟩⟩
      have hpk := Lib.hid k2.2.2.1
      rcases cok_i k1 with rfl | rfl | rfl | rfl | rfl
      all_goals clear k1 k2
      · have hr : Hid (decide (CF 1 n f b l m k g c lk P M) = true) := hr0.out.trans (decide_eq_true (fit_1 ..))
        rw [show testV 1 n f b = .iface 85 (.agg #[]) by simp [testV]] at HT
        have hm0 : ∀ w, (Go.method 274 85 (.agg #[]) "loop.example/wayboard/impl.fits").run Tryd.prog w = .ok (118, (.agg #[])) w := fun w => by kernel_rfl
        go_enter Tryd.func11, Tryd.ntmps11
        go_upto_region 1 with (fail)
        have oc := fun x : Cl _ _ => (Fb.cl hF x).own; simp only [World.size_alloc, World.size_drew, World.size_setCell, List.mem_cons, List.not_mem_nil, or_false, forall_eq_or_imp, forall_eq, At, and_true, Nat.zero_add, Nat.reduceAdd, List.set_cons_zero, List.set_cons_succ] at oc
        first | refine wp_region_new (by kernel_rfl) (by kernel_rfl) ?_ | refine wp_region_lex ?_
        repeat (any_goals (first | go_big_quiet_step ((first | (go_at_call 40; exact Calls.cl (HT.out _)) | (go_at_call 39; exact Calls.cl (HCO.out _)) | (go_at_call 34; exact Calls.cl (HRO.out _ (HC.out _).1 (HC.out _).2.1 (HC.out _).2.2)) | (go_at_call 118; exact Calls.cl (fitsAll _ _ _ _ _ _)))) | (refine wpQuiet_step (fun K hK => ?_); go_simp; split <;> (rename_i hg; refine hK _ ?_; clear hK K; simp only [hg, decide_true, decide_false]))))
        all_goals (refine wpQuiet_nil ?_; intro x)
        all_goals go_wp2
        all_goals go_ret
        all_goals exact ⟨by rw [hr.out]; rfl, (hF.cl x).kp⟩
      · have hr : Hid (decide (CF 2 n f b l m k g c lk P M) = decide (RIn g c f b)) := hr0.out.trans (decide_eq_decide.2 (fit_2 ..))
        rw [show testV 2 n f b = .iface 86 (.agg #[.int .i64 f, .int .i64 b]) by simp [testV]] at HT
        have hm0 : ∀ w, (Go.method 274 86 (.agg #[.int .i64 f, .int .i64 b]) "loop.example/wayboard/impl.fits").run Tryd.prog w = .ok (119, (.agg #[.int .i64 f, .int .i64 b])) w := fun w => by kernel_rfl
        go_enter Tryd.func11, Tryd.ntmps11
        go_upto_region 1 with (fail)
        have oc := fun x : Cl _ _ => (Fb.cl hF x).own; simp only [World.size_alloc, World.size_drew, World.size_setCell, List.mem_cons, List.not_mem_nil, or_false, forall_eq_or_imp, forall_eq, At, and_true, Nat.zero_add, Nat.reduceAdd, List.set_cons_zero, List.set_cons_succ] at oc
        first | refine wp_region_new (by kernel_rfl) (by kernel_rfl) ?_ | refine wp_region_lex ?_
        repeat (any_goals (first | go_big_quiet_step ((first | (go_at_call 40; exact Calls.cl (HT.out _)) | (go_at_call 39; exact Calls.cl (HCO.out _)) | (go_at_call 34; exact Calls.cl (HRO.out _ (HC.out _).1 (HC.out _).2.1 (HC.out _).2.2)) | (go_at_call 119; exact Calls.cl (fitsRange _ _ _ _ _ _ _ _)))) | (refine wpQuiet_step (fun K hK => ?_); go_simp; split <;> (rename_i hg; refine hK _ ?_; clear hK K; simp only [hg, decide_true, decide_false]))))
        all_goals (refine wpQuiet_nil ?_; intro x)
        all_goals go_wp2
        all_goals go_ret
        all_goals exact ⟨by rw [hr.out]; rfl, (hF.cl x).kp⟩
      · have hr : Hid (decide (CF 3 n f b l m k g c lk P M) = decide (n ∈ M)) := hr0.out.trans (decide_eq_decide.2 (fit_3 ..))
        rw [show testV 3 n f b = .iface 87 (.int .i64 n) by simp [testV]] at HT
        have hm0 : ∀ w, (Go.method 274 87 (.int .i64 n) "loop.example/wayboard/impl.fits").run Tryd.prog w = .ok (120, (.int .i64 n)) w := fun w => by kernel_rfl
        go_enter Tryd.func11, Tryd.ntmps11
        go_upto_region 1 with (fail)
        have oc := fun x : Cl _ _ => (Fb.cl hF x).own; simp only [World.size_alloc, World.size_drew, World.size_setCell, List.mem_cons, List.not_mem_nil, or_false, forall_eq_or_imp, forall_eq, At, and_true, Nat.zero_add, Nat.reduceAdd, List.set_cons_zero, List.set_cons_succ] at oc
        first | refine wp_region_new (by kernel_rfl) (by kernel_rfl) ?_ | refine wp_region_lex ?_
        repeat (any_goals (first | go_big_quiet_step ((first | (go_at_call 40; exact Calls.cl (HT.out _)) | (go_at_call 39; exact Calls.cl (HCO.out _)) | (go_at_call 34; exact Calls.cl (HRO.out _ (HC.out _).1 (HC.out _).2.1 (HC.out _).2.2)) | (go_at_call 120; exact Calls.cl (fitsMark _ _ _ _ _ _ M _ (HC.out _).2.1)))) | (refine wpQuiet_step (fun K hK => ?_); go_simp; split <;> (rename_i hg; refine hK _ ?_; clear hK K; simp only [hg, decide_true, decide_false]))))
        all_goals (refine wpQuiet_nil ?_; intro x)
        all_goals go_wp2
        all_goals go_ret
        all_goals exact ⟨by rw [hr.out]; rfl, (hF.cl x).kp⟩
      · have hr : Hid (decide (CF 4 n f b l m k g c lk P M) = decide (Has P n)) := hr0.out.trans (decide_eq_decide.2 ((fit_4 ..).trans ⟨fun q => ⟨hpk.out, q⟩, fun q => q.2⟩))
        rw [show testV 4 n f b = .iface 88 (.int .i64 n) by simp [testV]] at HT
        have hm0 : ∀ w, (Go.method 274 88 (.int .i64 n) "loop.example/wayboard/impl.fits").run Tryd.prog w = .ok (123, (.int .i64 n)) w := fun w => by kernel_rfl
        go_enter Tryd.func11, Tryd.ntmps11
        go_upto_region 1 with (fail)
        have oc := fun x : Cl _ _ => (Fb.cl hF x).own; simp only [World.size_alloc, World.size_drew, World.size_setCell, List.mem_cons, List.not_mem_nil, or_false, forall_eq_or_imp, forall_eq, At, and_true, Nat.zero_add, Nat.reduceAdd, List.set_cons_zero, List.set_cons_succ] at oc
        first | refine wp_region_new (by kernel_rfl) (by kernel_rfl) ?_ | refine wp_region_lex ?_
        repeat (any_goals (first | go_big_quiet_step ((first | (go_at_call 40; exact Calls.cl (HT.out _)) | (go_at_call 39; exact Calls.cl (HCO.out _)) | (go_at_call 34; exact Calls.cl (HRO.out _ (HC.out _).1 (HC.out _).2.1 (HC.out _).2.2)) | (go_at_call 123; exact Calls.cl (fitsHouse _ _ _ _ _ _ P a _ (HC.out _).1 (HC.out _).2.2)))) | (refine wpQuiet_step (fun K hK => ?_); go_simp; split <;> (rename_i hg; refine hK _ ?_; clear hK K; simp only [hg, decide_true, decide_false]))))
        all_goals (refine wpQuiet_nil ?_; intro x)
        all_goals go_wp2
        all_goals go_ret
        all_goals exact ⟨by rw [hr.out]; rfl, (hF.cl x).kp⟩
      · have hr : Hid (decide (CF 5 n f b l m k g c lk P M) = decide ((P.length : Int) ≤ n)) := hr0.out.trans (decide_eq_decide.2 (fit_5 ..))
        rw [show testV 5 n f b = .iface 89 (.int .i64 n) by simp [testV]] at HT
        have hm0 : ∀ w, (Go.method 274 89 (.int .i64 n) "loop.example/wayboard/impl.fits").run Tryd.prog w = .ok (124, (.int .i64 n)) w := fun w => by kernel_rfl
        go_enter Tryd.func11, Tryd.ntmps11
        go_upto_region 1 with (fail)
        have oc := fun x : Cl _ _ => (Fb.cl hF x).own; simp only [World.size_alloc, World.size_drew, World.size_setCell, List.mem_cons, List.not_mem_nil, or_false, forall_eq_or_imp, forall_eq, At, and_true, Nat.zero_add, Nat.reduceAdd, List.set_cons_zero, List.set_cons_succ] at oc
        first | refine wp_region_new (by kernel_rfl) (by kernel_rfl) ?_ | refine wp_region_lex ?_
        repeat (any_goals (first | go_big_quiet_step ((first | (go_at_call 40; exact Calls.cl (HT.out _)) | (go_at_call 39; exact Calls.cl (HCO.out _)) | (go_at_call 34; exact Calls.cl (HRO.out _ (HC.out _).1 (HC.out _).2.1 (HC.out _).2.2)) | (go_at_call 124; exact Calls.cl (fitsShort _ _ _ _ _ _ _ _ _)))) | (refine wpQuiet_step (fun K hK => ?_); go_simp; split <;> (rename_i hg; refine hK _ ?_; clear hK K; simp only [hg, decide_true, decide_false]))))
        all_goals (refine wpQuiet_nil ?_; intro x)
        all_goals go_wp2
        all_goals go_ret
        all_goals exact ⟨by rw [hr.out]; rfl, (hF.cl x).kp⟩
    · have d2 : decide (RtOk g c P lk M) = false := by simp [k2]
      have HRO := Lib.hid (fun (w : World) (g1 : Ints w (.slice o1 P.length c1) P) (g2 : Ints w (.slice o2 M.length c2) M) (gE : EPath w a) => (show Calls Tryd.prog 34 #[.agg #[.int .i64 g, .int .i64 c, .slice o1 P.length c1, .int .i64 lk, .slice o2 M.length c2]] w fun e w' => e = .returned (.bool false) ∧ Below w.heap.size w w' from by have := iRouteOk_any g c lk _ _ P M a w g1 g2 gE; rwa [d2] at this))
      have hr : Hid (decide (CF i n f b l m k g c lk P M) = false) := decide_eq_false fun q => k2 q.2.1
      clear k1 k2
      go_enter Tryd.func11, Tryd.ntmps11
      go_upto_region 1 with (fail)
      have oc := fun x : Cl _ _ => (Fb.cl hF x).own; simp only [World.size_alloc, World.size_drew, World.size_setCell, List.mem_cons, List.not_mem_nil, or_false, forall_eq_or_imp, forall_eq, At, and_true, Nat.zero_add, Nat.reduceAdd, List.set_cons_zero, List.set_cons_succ] at oc
      first | refine wp_region_new (by kernel_rfl) (by kernel_rfl) ?_ | refine wp_region_lex ?_
      repeat (any_goals (first | go_big_quiet_step ((first | (go_at_call 39; exact Calls.cl (HCO.out _)) | (go_at_call 34; exact Calls.cl (HRO.out _ (HC.out _).1 (HC.out _).2.1 (HC.out _).2.2)))) | (refine wpQuiet_step (fun K hK => ?_); go_simp; split <;> (rename_i hg; refine hK _ ?_; clear hK K; simp only [hg, decide_true, decide_false]))))
      all_goals (refine wpQuiet_nil ?_; intro x)
      all_goals go_wp2
      all_goals go_ret
      all_goals exact ⟨by rw [hr.out]; rfl, (hF.cl x).kp⟩
  · have d1 : decide (COk i n f b l m k) = false := by simp [k1]
    have HCO := Lib.hid (fun w => (show Calls Tryd.prog 39 #[.agg #[.int .i64 i, .int .i64 n, .int .i64 f, .int .i64 b, .bool rf, .int .i64 l, .int .i64 m, .int .i64 k]] w fun e w' => e = .returned (.bool false) ∧ Below w.heap.size w w' from by have := iClauseOk_any i n f b l m k rf w; rwa [d1] at this))
    have hr : Hid (decide (CF i n f b l m k g c lk P M) = false) := decide_eq_false fun q => k1 q.1
    clear k1
    go_enter Tryd.func11, Tryd.ntmps11
    go_upto_region 1 with (fail)
    have oc := fun x : Cl _ _ => (Fb.cl hF x).own; simp only [World.size_alloc, World.size_drew, World.size_setCell, List.mem_cons, List.not_mem_nil, or_false, forall_eq_or_imp, forall_eq, At, and_true, Nat.zero_add, Nat.reduceAdd, List.set_cons_zero, List.set_cons_succ] at oc
    first | refine wp_region_new (by kernel_rfl) (by kernel_rfl) ?_ | refine wp_region_lex ?_
    repeat (any_goals (first | go_big_quiet_step ((first | (go_at_call 39; exact Calls.cl (HCO.out _)))) | (refine wpQuiet_step (fun K hK => ?_); go_simp; split <;> (rename_i hg; refine hK _ ?_; clear hK K; simp only [hg, decide_true, decide_false]))))
    all_goals (refine wpQuiet_nil ?_; intro x)
    all_goals go_wp2
    all_goals go_ret
    all_goals exact ⟨by rw [hr.out]; rfl, (hF.cl x).kp⟩
set_option maxHeartbeats 4000000 in
theorem l11Fits_any (i n f b l m k : Int) (rf : Bool) (g c lk : Int) (pv mv : Value) (P M : List Int) (w : World) (hp : Ints w pv P) (hm : Ints w mv M) (k1 : COk i n f b l m k) (k2 : RtOk g c P lk M) :
    Calls Tryd.prog 41 #[.agg #[.int .i64 i, .int .i64 n, .int .i64 f, .int .i64 b, .bool rf, .int .i64 l, .int .i64 m, .int .i64 k], .agg #[.int .i64 g, .int .i64 c, pv, .int .i64 lk, mv]] w fun e w' => e = .returned (.bool (decide (Fit i n f b g c P M))) ∧ Below w.heap.size w w' := by
  obtain ⟨o1, c1, rfl, -⟩ := hp.ex
  obtain ⟨o2, c2, rfl, -⟩ := hm.ex
  have hF := ((Fb.start w).alloc [.int .i64 i, .int .i64 n, .int .i64 f, .int .i64 b, .bool rf, .int .i64 l, .int .i64 m, .int .i64 k] 26).alloc [.int .i64 g, .int .i64 c, .slice o1 P.length c1, .int .i64 lk, .slice o2 M.length c2] 29
  simp only [World.size_alloc] at hF
  have HP := Lib.hid (Rows.below hp hF.kp)
  have HM := Lib.hid (Rows.below hm hF.kp)
  have HR := Lib.hid k2.1
  have HS := Lib.hid k1.1
  clear hp hm
  rcases cok_i k1 with rfl | rfl | rfl | rfl | rfl
  all_goals clear k1 k2
  · have hr : Hid (decide (Fit 1 n f b g c P M) = true) := decide_eq_true (fit_1 ..)
    go_enter Tryd.func41, Tryd.ntmps41
    go_wp2
    go_ret
    exact ⟨by rw [hr.out]; rfl, hF.kp⟩
  · have hr : Hid (decide (Fit 2 n f b g c P M) = decide (RIn g c f b)) := decide_eq_decide.2 (fit_2 ..)
    have hrc : Hid (ROk f b) := by have := HS.out; unfold Sub1 at this; show ROk f b; simp at this; exact this.2
    go_enter Tryd.func41, Tryd.ntmps41
    go_wp2_with ((go_at_call 71; go_must (refine (l1In_any _ _ _ _ HR.out hrc.out _).mono ?_); rintro e wx ⟨rfl, hbx⟩; replace hF := hF.below hbx; clear hbx))
    go_ret
    exact ⟨by rw [hr.out]; rfl, hF.kp⟩
  · have hr : Hid (decide (Fit 3 n f b g c P M) = decide (n ∈ M)) := decide_eq_decide.2 (fit_3 ..)
    go_enter Tryd.func41, Tryd.ntmps41
    go_wp2_with ((go_at_call 53; go_must (refine (l3Has_any _ M _ _ HM.out).mono ?_); rintro e wx ⟨rfl, hbx⟩; replace hF := hF.below hbx; clear hbx))
    go_ret
    exact ⟨by rw [hr.out]; rfl, hF.kp⟩
  · have hr : Hid (decide (Fit 4 n f b g c P M) = decide (n ∈ P)) := decide_eq_decide.2 (fit_4 ..)
    go_enter Tryd.func41, Tryd.ntmps41
    go_wp2_with ((go_at_call 53; go_must (refine (l3Has_any _ P _ _ HP.out).mono ?_); rintro e wx ⟨rfl, hbx⟩; replace hF := hF.below hbx; clear hbx))
    go_ret
    exact ⟨by rw [hr.out]; rfl, hF.kp⟩
  · have hr : Hid (decide (Fit 5 n f b g c P M) = decide ((P.length : Int) ≤ n)) := decide_eq_decide.2 (fit_5 ..)
    go_enter Tryd.func41, Tryd.ntmps41
    go_wp2
    go_ret
    exact ⟨by rw [hr.out]; rfl, hF.kp⟩
set_option maxHeartbeats 4000000 in
theorem sClauseFits_any (i n f b l m k : Int) (rf : Bool) (g c lk : Int) (pv mv : Value) (P M : List Int) (w : World) (hp : Ints w pv P) (hm : Ints w mv M) :
    Calls Tryd.prog 12 #[.agg #[.int .i64 i, .int .i64 n, .int .i64 f, .int .i64 b, .bool rf, .int .i64 l, .int .i64 m, .int .i64 k], .agg #[.int .i64 g, .int .i64 c, pv, .int .i64 lk, mv]] w fun e w' => e = .returned (.bool (decide (CF i n f b l m k g c lk P M))) ∧ Below w.heap.size w w' := by
  obtain ⟨o1, c1, rfl, -⟩ := hp.ex
  obtain ⟨o2, c2, rfl, -⟩ := hm.ex
  have hF := ((Fb.start w).alloc [.int .i64 i, .int .i64 n, .int .i64 f, .int .i64 b, .bool rf, .int .i64 l, .int .i64 m, .int .i64 k] 26).alloc [.int .i64 g, .int .i64 c, .slice o1 P.length c1, .int .i64 lk, .slice o2 M.length c2] 29
  simp only [World.size_alloc] at hF
  replace hp := Rows.below hp hF.kp
  replace hm := Rows.below hm hF.kp
  have o := hF.own; simp only [World.size_alloc, World.size_drew, World.size_setCell, List.mem_cons, List.not_mem_nil, or_false, forall_eq_or_imp, forall_eq, At, and_true, Nat.zero_add, Nat.reduceAdd, List.set_cons_zero, List.set_cons_succ] at o
  go_enter Tryd.func12, Tryd.ntmps12
  by_cases k1 : COk i n f b l m k
  · have d1 : decide (COk i n f b l m k) = true := by simp [k1]
    by_cases k2 : RtOk g c P lk M
    · have d2 : decide (RtOk g c P lk M) = true := by simp [k2]
      have hr : Hid (decide (CF i n f b l m k g c lk P M) = decide (Fit i n f b g c P M)) := decide_eq_decide.2 ⟨fun q => q.2.2, fun q => ⟨k1, k2, q⟩⟩
      have K1 := Lib.hid k1
      have K2 := Lib.hid k2
      clear k1 k2
      go_wp2_with (first | (go_at_call 13; go_must (refine (sClauseOk_any _ _ _ _ _ _ _ _ _).mono ?_); rintro e wx ⟨rfl, hbx⟩; replace hF := hF.below hbx; replace hp := Rows.below hp hbx; replace hm := Rows.below hm hbx; clear hbx o; have o := hF.own; simp only [World.size_alloc, World.size_drew, World.size_setCell, List.mem_cons, List.not_mem_nil, or_false, forall_eq_or_imp, forall_eq, At, and_true, Nat.zero_add, Nat.reduceAdd, List.set_cons_zero, List.set_cons_succ] at o) | (go_at_call 14; go_must (refine (sRouteOk_any g c lk _ _ P M _ hp hm).mono ?_); rintro e wx ⟨rfl, hbx⟩; replace hF := hF.below hbx; replace hp := Rows.below hp hbx; replace hm := Rows.below hm hbx; clear hbx o; have o := hF.own; simp only [World.size_alloc, World.size_drew, World.size_setCell, List.mem_cons, List.not_mem_nil, or_false, forall_eq_or_imp, forall_eq, At, and_true, Nat.zero_add, Nat.reduceAdd, List.set_cons_zero, List.set_cons_succ] at o) | (go_at_call 41; go_must (refine (l11Fits_any i n f b l m k rf g c lk _ _ P M _ hp hm K1.out K2.out).mono ?_); rintro e wx ⟨rfl, hbx⟩; replace hF := hF.below hbx; replace hp := Rows.below hp hbx; replace hm := Rows.below hm hbx; clear hbx o; have o := hF.own; simp only [World.size_alloc, World.size_drew, World.size_setCell, List.mem_cons, List.not_mem_nil, or_false, forall_eq_or_imp, forall_eq, At, and_true, Nat.zero_add, Nat.reduceAdd, List.set_cons_zero, List.set_cons_succ] at o))
      go_ret
      exact ⟨by rw [hr.out]; rfl, hF.kp⟩
    · have d2 : decide (RtOk g c P lk M) = false := by simp [k2]
      have hr : Hid (decide (CF i n f b l m k g c lk P M) = false) := decide_eq_false fun q => k2 q.2.1
      clear k1 k2
      go_wp2_with (first | (go_at_call 13; go_must (refine (sClauseOk_any _ _ _ _ _ _ _ _ _).mono ?_); rintro e wx ⟨rfl, hbx⟩; replace hF := hF.below hbx; replace hp := Rows.below hp hbx; replace hm := Rows.below hm hbx; clear hbx o; have o := hF.own; simp only [World.size_alloc, World.size_drew, World.size_setCell, List.mem_cons, List.not_mem_nil, or_false, forall_eq_or_imp, forall_eq, At, and_true, Nat.zero_add, Nat.reduceAdd, List.set_cons_zero, List.set_cons_succ] at o) | (go_at_call 14; go_must (refine (sRouteOk_any g c lk _ _ P M _ hp hm).mono ?_); rintro e wx ⟨rfl, hbx⟩; replace hF := hF.below hbx; replace hp := Rows.below hp hbx; replace hm := Rows.below hm hbx; clear hbx o; have o := hF.own; simp only [World.size_alloc, World.size_drew, World.size_setCell, List.mem_cons, List.not_mem_nil, or_false, forall_eq_or_imp, forall_eq, At, and_true, Nat.zero_add, Nat.reduceAdd, List.set_cons_zero, List.set_cons_succ] at o))
      go_ret
      exact ⟨by rw [hr.out]; rfl, hF.kp⟩
  · have d1 : decide (COk i n f b l m k) = false := by simp [k1]
    have hr : Hid (decide (CF i n f b l m k g c lk P M) = false) := decide_eq_false fun q => k1 q.1
    clear k1
    go_wp2_with (first | (go_at_call 13; go_must (refine (sClauseOk_any _ _ _ _ _ _ _ _ _).mono ?_); rintro e wx ⟨rfl, hbx⟩; replace hF := hF.below hbx; replace hp := Rows.below hp hbx; replace hm := Rows.below hm hbx; clear hbx o; have o := hF.own; simp only [World.size_alloc, World.size_drew, World.size_setCell, List.mem_cons, List.not_mem_nil, or_false, forall_eq_or_imp, forall_eq, At, and_true, Nat.zero_add, Nat.reduceAdd, List.set_cons_zero, List.set_cons_succ] at o))
    go_ret
    exact ⟨by rw [hr.out]; rfl, hF.kp⟩
end Go.Proofs.YtgegmampnpgcaaaDoor
