/- Tables: what a table is; whether entries are one. -/
import Derived.Test.YtkkhbnhddhbgeaaRa
import Derived.Test.YtkkhbnhddhbgeaaB5
set_option linter.unusedSimpArgs false
set_option linter.unusedVariables false
namespace Go.Proofs.Ytkkhbnhddhbgeaa
open Go.RowKit

/-- An entry: the range's first address, its bits, and by whom one goes. -/
abbrev Ent := Int × Int × Int
def encE (e : Ent) : List Value := [.int .i64 e.1, .int .i64 e.2.1, .int .i64 e.2.2]
abbrev Ents (w : World) (v : Value) (T : List Ent) : Prop := Rows w v 3 encE T
def zE : Ent := (0, 0, 0)
def EP3 (f b v : Int) : Prop := ROk f b ∧ Bts v 1 9
instance (f b v : Int) : Decidable (EP3 f b v) := by unfold EP3; infer_instance
def EP (e : Ent) : Prop := EP3 e.1 e.2.1 e.2.2
instance (e : Ent) : Decidable (EP e) := by unfold EP; infer_instance
def ecmp (a b : Ent) : Int := rcmp a.1 a.2.1 b.1 b.2.1
def StepOk (T : List Ent) (i : Nat) : Prop := EP (T.getD i zE) ∧ (0 < i → ecmp (T.getD (i - 1) zE) (T.getD i zE) < 0)
instance (T : List Ent) (i : Nat) : Decidable (StepOk T i) := by unfold StepOk; infer_instance
def TOk (T : List Ent) : Prop := (∀ i, i < T.length → StepOk T i) ∧ T.length ≤ 12
instance (T : List Ent) : Decidable (TOk T) := by unfold TOk; infer_instance
theorem getD_of {α : Type} {T : List α} {k : Nat} {x z : α} (h : T[k]? = some x) : T.getD k z = x := by simp [List.getD, h]
theorem stepOk_0 {T : List Ent} {x : Ent} (h : T[0]? = some x) : StepOk T 0 ↔ EP x := by
  unfold StepOk; rw [getD_of h]; exact ⟨fun g => g.1, fun g => ⟨g, fun h => absurd h (Nat.lt_irrefl _)⟩⟩
theorem stepOk_s {T : List Ent} {k k' : Nat} {x y : Ent} (hk : k' + 1 ≤ k) (hk' : k ≤ k' + 1) (hy : T[k']? = some y) (hx : T[k]? = some x) : StepOk T k ↔ EP x ∧ ecmp y x < 0 := by
  obtain rfl : k = k' + 1 := by omega
  unfold StepOk; rw [getD_of hx, show k' + 1 - 1 = k' by omega, getD_of hy]
  exact ⟨fun g => ⟨g.1, g.2 (by omega)⟩, fun g => ⟨g.1, fun _ => g.2⟩⟩
theorem tok_no {T : List Ent} {n k : Nat} (hn : T.length = n) (hk : k < n) (h : ¬ StepOk T k) : decide (TOk T) = false :=
  decide_eq_false (fun g => h (g.1 k (by omega)))
theorem tok_all {T : List Ent} {n : Nat} (hn : T.length = n) (h : ∀ j, j < n → StepOk T j) : decide (TOk T) = decide ((n : Int) ≤ 12) := by
  refine decide_eq_decide.2 ⟨fun g => by have := g.2; omega, fun g => ⟨fun i hi => h i (by omega), by omega⟩⟩
theorem ents3 {b0 off k : Nat} {x : Ent} {w : World} {T : List Ent} (hc : ∀ k x, T[k]? = some x → ∀ j u, (encE x)[j]? = some u → w.cell? ⟨b0, off + k * 3 + j, none⟩ = some u) (hx : T[k]? = some x) :
    w.cell? ⟨b0, off + k * 3, none⟩ = some (.int .i64 x.1) ∧ w.cell? ⟨b0, off + k * 3 + 1, none⟩ = some (.int .i64 x.2.1) ∧ w.cell? ⟨b0, off + k * 3 + 2, none⟩ = some (.int .i64 x.2.2) :=
  ⟨hc k x hx 0 _ rfl, hc k x hx 1 _ rfl, hc k x hx 2 _ rfl⟩
theorem l2Entry_any (f b v : Int) (w : World) :
    Calls Try.prog 54 #[.agg #[.int .i64 f, .int .i64 b, .int .i64 v]] w fun e w' => e = .returned (.bool (decide (EP3 f b v))) ∧ Below w.heap.size w w' := by
  have hF := (Fb.start w).alloc [.int .i64 f, .int .i64 b, .int .i64 v] 40
  by_cases hr : ROk f b
  · have d1 : decide (ROk f b) = true := by simp [hr]
    have hd : decide (EP3 f b v) = decide (Bts v 1 9) := decide_eq_decide.2 ⟨fun g => g.2, fun g => ⟨hr, g⟩⟩
    rw [hd]; clear hr hd
    go_enter Try.func54, Try.ntmps54
    go_wp2_with (first | (go_at_call 48; go_must (refine (sRangeOk_any _ _ _).mono ?_); rintro e wx ⟨rfl, hbx⟩; replace hF := Fb.below (by repeat (first | assumption | apply Fb.alloc_1 | apply Fb.alloc_2 | apply Fb.alloc_3 | apply Fb.alloc_4 | apply Fb.alloc_5 | apply Fb.alloc_8 | apply Fb.drew | apply Fb.drewN | apply Fb.other)) hbx; clear hbx; (try clear o); have o := hF.own; simp only [World.size_alloc, World.size_drew, World.size_setCell, List.mem_cons, List.not_mem_nil, or_false, forall_eq_or_imp, forall_eq, At, and_true, Nat.zero_add, Nat.reduceAdd, List.set_cons_zero, List.set_cons_succ] at o) | (go_at_call 34; go_must (refine (l6In_any _ _ _ _).mono ?_); rintro e wx ⟨rfl, hbx⟩; replace hF := Fb.below (by repeat (first | assumption | apply Fb.alloc_1 | apply Fb.alloc_2 | apply Fb.alloc_3 | apply Fb.alloc_4 | apply Fb.alloc_5 | apply Fb.alloc_8 | apply Fb.drew | apply Fb.drewN | apply Fb.other)) hbx; clear hbx; (try clear o); have o := hF.own; simp only [World.size_alloc, World.size_drew, World.size_setCell, List.mem_cons, List.not_mem_nil, or_false, forall_eq_or_imp, forall_eq, At, and_true, Nat.zero_add, Nat.reduceAdd, List.set_cons_zero, List.set_cons_succ] at o))
    (go_ret; exact ⟨rfl, Fb.kp (by repeat (first | assumption | apply Fb.alloc_1 | apply Fb.alloc_2 | apply Fb.alloc_3 | apply Fb.alloc_4 | apply Fb.alloc_5 | apply Fb.alloc_8 | apply Fb.drew | apply Fb.drewN | apply Fb.other))⟩)
  · have d1 : decide (ROk f b) = false := by simp [hr]
    have hd : decide (EP3 f b v) = false := decide_eq_false (fun g => hr g.1)
    rw [hd]; clear hr hd
    go_enter Try.func54, Try.ntmps54
    go_wp2_with (first | (go_at_call 48; go_must (refine (sRangeOk_any _ _ _).mono ?_); rintro e wx ⟨rfl, hbx⟩; replace hF := Fb.below (by repeat (first | assumption | apply Fb.alloc_1 | apply Fb.alloc_2 | apply Fb.alloc_3 | apply Fb.alloc_4 | apply Fb.alloc_5 | apply Fb.alloc_8 | apply Fb.drew | apply Fb.drewN | apply Fb.other)) hbx; clear hbx; (try clear o); have o := hF.own; simp only [World.size_alloc, World.size_drew, World.size_setCell, List.mem_cons, List.not_mem_nil, or_false, forall_eq_or_imp, forall_eq, At, and_true, Nat.zero_add, Nat.reduceAdd, List.set_cons_zero, List.set_cons_succ] at o) | (go_at_call 34; go_must (refine (l6In_any _ _ _ _).mono ?_); rintro e wx ⟨rfl, hbx⟩; replace hF := Fb.below (by repeat (first | assumption | apply Fb.alloc_1 | apply Fb.alloc_2 | apply Fb.alloc_3 | apply Fb.alloc_4 | apply Fb.alloc_5 | apply Fb.alloc_8 | apply Fb.drew | apply Fb.drewN | apply Fb.other)) hbx; clear hbx; (try clear o); have o := hF.own; simp only [World.size_alloc, World.size_drew, World.size_setCell, List.mem_cons, List.not_mem_nil, or_false, forall_eq_or_imp, forall_eq, At, and_true, Nat.zero_add, Nat.reduceAdd, List.set_cons_zero, List.set_cons_succ] at o))
    (go_ret; exact ⟨rfl, Fb.kp (by repeat (first | assumption | apply Fb.alloc_1 | apply Fb.alloc_2 | apply Fb.alloc_3 | apply Fb.alloc_4 | apply Fb.alloc_5 | apply Fb.alloc_8 | apply Fb.drew | apply Fb.drewN | apply Fb.other))⟩)
theorem entryOk_any (f b v : Int) (w : World) :
    Calls Try.prog 52 #[.agg #[.int .i64 f, .int .i64 b, .int .i64 v]] w fun e w' => e = .returned (.bool (decide (EP3 f b v))) ∧ Below w.heap.size w w' := by
  have hF := (Fb.start w).alloc [.int .i64 f, .int .i64 b, .int .i64 v] 40
  by_cases hr : ROk f b
  · have d1 : decide (ROk f b) = true := by simp [hr]
    by_cases h1 : 1 ≤ v
    · have d2 : decide (1 ≤ v) = true := by simp [h1]
      have hd : decide (EP3 f b v) = decide (v ≤ 9) := decide_eq_decide.2 ⟨fun g => g.2.2, fun g => ⟨hr, h1, g⟩⟩
      rw [hd]; clear hr hd h1
      go_enter Try.func52, Try.ntmps52
      go_wp2_with (go_at_call 68; go_must (refine (iRangeOk_any _ _ _).mono ?_); rintro e wx ⟨rfl, hbx⟩; replace hF := Fb.below (by repeat (first | assumption | apply Fb.alloc_1 | apply Fb.alloc_2 | apply Fb.alloc_3 | apply Fb.alloc_4 | apply Fb.alloc_5 | apply Fb.alloc_8 | apply Fb.drew | apply Fb.drewN | apply Fb.other)) hbx; clear hbx; (try clear o); have o := hF.own; simp only [World.size_alloc, World.size_drew, World.size_setCell, List.mem_cons, List.not_mem_nil, or_false, forall_eq_or_imp, forall_eq, At, and_true, Nat.zero_add, Nat.reduceAdd, List.set_cons_zero, List.set_cons_succ] at o)
      (go_ret; exact ⟨rfl, Fb.kp (by repeat (first | assumption | apply Fb.alloc_1 | apply Fb.alloc_2 | apply Fb.alloc_3 | apply Fb.alloc_4 | apply Fb.alloc_5 | apply Fb.alloc_8 | apply Fb.drew | apply Fb.drewN | apply Fb.other))⟩)
    · have d2 : decide (1 ≤ v) = false := by simp; omega
      have hd : decide (EP3 f b v) = false := decide_eq_false (fun g => h1 g.2.1)
      rw [hd]; clear hr hd h1
      go_enter Try.func52, Try.ntmps52
      go_wp2_with (go_at_call 68; go_must (refine (iRangeOk_any _ _ _).mono ?_); rintro e wx ⟨rfl, hbx⟩; replace hF := Fb.below (by repeat (first | assumption | apply Fb.alloc_1 | apply Fb.alloc_2 | apply Fb.alloc_3 | apply Fb.alloc_4 | apply Fb.alloc_5 | apply Fb.alloc_8 | apply Fb.drew | apply Fb.drewN | apply Fb.other)) hbx; clear hbx; (try clear o); have o := hF.own; simp only [World.size_alloc, World.size_drew, World.size_setCell, List.mem_cons, List.not_mem_nil, or_false, forall_eq_or_imp, forall_eq, At, and_true, Nat.zero_add, Nat.reduceAdd, List.set_cons_zero, List.set_cons_succ] at o)
      (go_ret; exact ⟨rfl, Fb.kp (by repeat (first | assumption | apply Fb.alloc_1 | apply Fb.alloc_2 | apply Fb.alloc_3 | apply Fb.alloc_4 | apply Fb.alloc_5 | apply Fb.alloc_8 | apply Fb.drew | apply Fb.drewN | apply Fb.other))⟩)
  · have d1 : decide (ROk f b) = false := by simp [hr]
    have hd : decide (EP3 f b v) = false := decide_eq_false (fun g => hr g.1)
    rw [hd]; clear hr hd
    go_enter Try.func52, Try.ntmps52
    go_wp2_with (go_at_call 68; go_must (refine (iRangeOk_any _ _ _).mono ?_); rintro e wx ⟨rfl, hbx⟩; replace hF := Fb.below (by repeat (first | assumption | apply Fb.alloc_1 | apply Fb.alloc_2 | apply Fb.alloc_3 | apply Fb.alloc_4 | apply Fb.alloc_5 | apply Fb.alloc_8 | apply Fb.drew | apply Fb.drewN | apply Fb.other)) hbx; clear hbx; (try clear o); have o := hF.own; simp only [World.size_alloc, World.size_drew, World.size_setCell, List.mem_cons, List.not_mem_nil, or_false, forall_eq_or_imp, forall_eq, At, and_true, Nat.zero_add, Nat.reduceAdd, List.set_cons_zero, List.set_cons_succ] at o)
    (go_ret; exact ⟨rfl, Fb.kp (by repeat (first | assumption | apply Fb.alloc_1 | apply Fb.alloc_2 | apply Fb.alloc_3 | apply Fb.alloc_4 | apply Fb.alloc_5 | apply Fb.alloc_8 | apply Fb.drew | apply Fb.drewN | apply Fb.other))⟩)
set_option maxHeartbeats 1000000 in
theorem sTableOk_any (v : Value) (T : List Ent) (w : World) (hv : Ents w v T) :
    Calls Try.prog 21 #[v] w fun e w' => e = .returned (.bool (decide (TOk T))) ∧ Below w.heap.size w w' := by
  have hF := Fb.start w
  obtain ⟨n, cap, hn, hnc, hcap, ⟨hn0, ao, rfl⟩ | ⟨hn0, b0, off, rfl, hc⟩⟩ := hv.cases
  all_goals
    clear hv
    go_enter Try.func21, Try.ntmps21
    go_wp2
    go_loopw [3] (fun i wr => ∃ k : Nat, k ≤ n ∧ i = .int .i64 k ∧ Hid (∀ j, j < k → StepOk T j) ∧ Fb w wr []) (fun i _ => n - (intOf i).toNat)
    case atStart => exact ⟨0, Nat.zero_le _, rfl, (fun j h => by omega), hF⟩
    case round =>
      clear hF
      obtain ⟨k, hk, rfl, hall, hF⟩ := hrel
      by_cases hlt : k < n
      · try (exfalso; omega)
        all_goals
          obtain ⟨x, hx⟩ := get_of hn.out hlt
          have HX := Lib.hid hx
          obtain ⟨c0, c1, c2⟩ := ents3 hc.out hx
          have HE : Hid (EP x ↔ EP3 x.1 x.2.1 x.2.2) := Iff.rfl
          have hno := Lib.hid (fun h => tok_no (T := T) hn.out hlt h)
          clear hx
          obtain ⟨xf, xb, xv⟩ := x
          dsimp only at c0 c1 c2
          have cc0 := fun x : Cl wr.heap.size wr => Cl.old hF x c0
          have cc1 := fun x : Cl wr.heap.size wr => Cl.old hF x c1
          have cc2 := fun x : Cl wr.heap.size wr => Cl.old hF x c2
          clear c0 c1 c2
          by_cases hE : EP3 xf xb xv
          · have dE : decide (EP3 xf xb xv) = true := by simp [hE]
            by_cases hk0 : k = 0
            · have d0 : decide ((0 : Int) < (k : Int)) = false := by simp; omega
              have d0' : decide (0 < k) = false := by simp; omega
              have hst : Hid (StepOk T k) := by subst hk0; exact (stepOk_0 HX.out).2 hE
              have hall2 : Hid (∀ j, j < k + 1 → StepOk T j) := fun j hj => by
                by_cases e : j = k
                · rw [e]; exact hst.out
                · exact hall.out j (by omega)
              clear hE hk0
              go_wp2
              first | refine wp_region_new (by kernel_rfl) (by kernel_rfl) ?_ | refine wp_region_lex ?_
              repeat (any_goals (first | go_big_quiet_step ((first | (go_at_call 54; exact Calls.cl (l2Entry_any _ _ _ _)) | (go_at_call 55; exact Calls.cl (l1Cmp_any _ _ _ _ _)))) | (refine wpQuiet_step (fun K hK => ?_); go_simp; split <;> (rename_i hg; refine hK _ ?_; clear hK K; simp only [hg, decide_true, decide_false]))))
              all_goals (refine wpQuiet_nil ?_; intro x)
              go_wp2
              go_roundw
              case rel => exact ⟨k + 1, by omega, by go_num, hall2, hF.cl x⟩
              case measure => simp [intOf]; omega
            · obtain ⟨k', hk1, hk2⟩ : ∃ k', k' + 1 ≤ k ∧ k ≤ k' + 1 := ⟨k - 1, by omega, by omega⟩
              have hsub : (k : Int) - 1 = (k' : Int) := by omega
              have d0 : decide ((0 : Int) < (k : Int)) = true := by simp; omega
              have d0' : decide (0 < k) = true := by simp; omega
              have hk'n : k' < n := by omega
              obtain ⟨y, hy⟩ := get_of hn.out hk'n
              have hst := Lib.hid (stepOk_s hk1 hk2 hy HX.out)
              obtain ⟨p0, p1, p2⟩ := ents3 hc.out hy
              obtain ⟨yf, yb, yv⟩ := y
              dsimp only at p0 p1 p2
              have pp0 := fun x : Cl wr.heap.size wr => Cl.old hF x p0
              have pp1 := fun x : Cl wr.heap.size wr => Cl.old hF x p1
              clear p0 p1 p2 hy
              by_cases hC : 0 ≤ rcmp yf yb xf xb
              · have dC : decide (0 ≤ rcmp yf yb xf xb) = true := by simp [hC]
                have hd := Lib.hid (hno.out (fun g => by have := (hst.out.1 g).2; unfold ecmp at this; dsimp only at this; omega))
                clear hE hC hk0
                go_wp2
                first | refine wp_region_new (by kernel_rfl) (by kernel_rfl) ?_ | refine wp_region_lex ?_
                repeat (any_goals (first | go_big_quiet_step ((first | (go_at_call 54; exact Calls.cl (l2Entry_any _ _ _ _)) | (go_at_call 55; exact Calls.cl (l1Cmp_any _ _ _ _ _)))) | (refine wpQuiet_step (fun K hK => ?_); go_simp; split <;> (rename_i hg; refine hK _ ?_; clear hK K; simp only [hg, decide_true, decide_false]))))
                all_goals (refine wpQuiet_nil ?_; intro x)
                go_wp2
                go_ret
                exact ⟨by rw [hd.out]; rfl, (hF.cl x).kp⟩
              · have dC : decide (0 ≤ rcmp yf yb xf xb) = false := by simp; omega
                have hall2 : Hid (∀ j, j < k + 1 → StepOk T j) := fun j hj => by
                  by_cases e : j = k
                  · rw [e]; exact hst.out.2 ⟨hE, by unfold ecmp; dsimp only; omega⟩
                  · exact hall.out j (by omega)
                clear hE hC hk0
                go_wp2
                first | refine wp_region_new (by kernel_rfl) (by kernel_rfl) ?_ | refine wp_region_lex ?_
                repeat (any_goals (first | go_big_quiet_step ((first | (go_at_call 54; exact Calls.cl (l2Entry_any _ _ _ _)) | (go_at_call 55; exact Calls.cl (l1Cmp_any _ _ _ _ _)))) | (refine wpQuiet_step (fun K hK => ?_); go_simp; split <;> (rename_i hg; refine hK _ ?_; clear hK K; simp only [hg, decide_true, decide_false]))))
                all_goals (refine wpQuiet_nil ?_; intro x)
                go_wp2
                go_roundw
                case rel => exact ⟨k + 1, by omega, by go_num, hall2, hF.cl x⟩
                case measure => simp [intOf]; omega
          · have dE : decide (EP3 xf xb xv) = false := by simp [hE]
            have hd := Lib.hid (hno.out (fun g => hE (by have := g.1; rw [getD_of HX.out] at this; exact this)))
            clear hE
            go_wp2
            first | refine wp_region_new (by kernel_rfl) (by kernel_rfl) ?_ | refine wp_region_lex ?_
            repeat (any_goals (first | go_big_quiet_step ((first | (go_at_call 54; exact Calls.cl (l2Entry_any _ _ _ _)) | (go_at_call 55; exact Calls.cl (l1Cmp_any _ _ _ _ _)))) | (refine wpQuiet_step (fun K hK => ?_); go_simp; split <;> (rename_i hg; refine hK _ ?_; clear hK K; simp only [hg, decide_true, decide_false]))))
            all_goals (refine wpQuiet_nil ?_; intro x)
            go_wp2
            go_ret
            exact ⟨by rw [hd.out]; rfl, (hF.cl x).kp⟩
      · have hd := Lib.hid (tok_all hn.out (fun j hj => hall.out j (by omega)))
        go_wp2
        go_ret
        exact ⟨by rw [hd.out]; try rfl, hF.kp⟩
end Go.Proofs.Ytkkhbnhddhbgeaa
