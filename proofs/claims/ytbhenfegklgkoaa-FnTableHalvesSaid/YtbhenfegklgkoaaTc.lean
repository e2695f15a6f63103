/- Tables: putting an entry, by the reference; whether two are the same. -/
import Derived.Test.YtbhenfegklgkoaaTb
set_option linter.unusedSimpArgs false
set_option linter.unusedVariables false
namespace Go.Proofs.Ytbhenfegklgkoaa
open Go.RowKit

/-- One round of a putting: what is there, and whether e has been put. -/
def pstF (e x : Ent) (s : List Ent × Bool) : List Ent × Bool :=
  let s1 := if s.2 = false ∧ 0 ≤ ecmp x e then (s.1 ++ [e], true) else s
  if ecmp x e ≠ 0 then (s1.1 ++ [x], s1.2) else s1
def pst (e : Ent) (T : List Ent) : Nat → List Ent × Bool
  | 0 => ([], false)
  | k + 1 => pstF e (T.getD k zE) (pst e T k)
theorem pst_s {e x : Ent} {T : List Ent} {k : Nat} (hx : T[k]? = some x) : pst e T (k + 1) = pstF e x (pst e T k) := by
  show pstF e (T.getD k zE) _ = _; rw [getD_of hx]
/-- T with e. -/
def put (T : List Ent) (e : Ent) : List Ent := if (pst e T T.length).2 then (pst e T T.length).1 else (pst e T T.length).1 ++ [e]
theorem pst_len (e : Ent) (T : List Ent) : ∀ k, (pst e T k).1.length ≤ k + (if (pst e T k).2 then 1 else 0)
  | 0 => by simp [pst]
  | k + 1 => by
    have ih := pst_len e T k
    show (pstF e _ (pst e T k)).1.length ≤ k + 1 + (if (pstF e _ (pst e T k)).2 then 1 else 0)
    unfold pstF
    generalize ecmp (T.getD k zE) e = c
    generalize pst e T k = s at *
    obtain ⟨o, p⟩ := s
    dsimp only at ih ⊢
    cases p
    · by_cases h1 : 0 ≤ c
      · by_cases h2 : c ≠ 0
        · simp [h1, h2] at ih ⊢; omega
        · simp at h2; subst h2; simp at ih ⊢; omega
      · have h2 : c ≠ 0 := by omega
        simp [h1, h2] at ih ⊢; omega
    · by_cases h2 : c ≠ 0
      · simp [h2] at ih ⊢; omega
      · simp at h2; subst h2; simp at ih ⊢; omega
theorem pst_pos (e : Ent) (T : List Ent) : ∀ k, (pst e T k).2 = true → 0 < (pst e T k).1.length
  | 0 => by simp [pst]
  | k + 1 => by
    have ih := pst_pos e T k
    show (pstF e _ (pst e T k)).2 = true → 0 < (pstF e _ (pst e T k)).1.length
    unfold pstF
    generalize ecmp (T.getD k zE) e = c
    generalize pst e T k = s at *
    obtain ⟨o, p⟩ := s
    dsimp only at ih ⊢
    by_cases h1 : p = false ∧ 0 ≤ c
    · rw [if_pos h1]
      by_cases h2 : c ≠ 0 <;> simp [h2]
    · rw [if_neg h1]
      by_cases h2 : c ≠ 0
      · simp [h2]
      · rw [if_neg h2]; exact ih
theorem put_pos (T : List Ent) (e : Ent) : 0 < (put T e).length := by
  unfold put
  split
  · rename_i h; exact pst_pos e T _ h
  · simp
theorem put_len (T : List Ent) (e : Ent) : (put T e).length ≤ T.length + 1 := by
  have := pst_len e T T.length
  unfold put
  split
  · rename_i h; rw [h] at this; simpa using this
  · rename_i h; simp at h; rw [h] at this; simp at this ⊢; omega
set_option maxHeartbeats 4000000 in
theorem l2Put_any (v : Value) (T : List Ent) (f b g : Int) (w : World) (hv : Ents w v T) (hT : T.length ≤ 100) :
    Calls Try.prog 58 #[v, .agg #[.int .i64 f, .int .i64 b, .int .i64 g]] w fun e w' => ∃ u, e = .returned u ∧ Own 29 w' w.heap.size u 3 encE (put T (f, b, g)) ∧ Below w.heap.size w w' := by
  have hF := ((Fb.start w).alloc [.int .i64 f, .int .i64 b, .int .i64 g] 29).other (.cells #[] 29)
  have hO : Own 29 ((w.alloc (.cells #[.int .i64 f, .int .i64 b, .int .i64 g] 29)).alloc (.cells #[] 29)) (w.heap.size + 1) (.slice (some ⟨w.heap.size + 1, 0, none⟩) 0 0) 3 encE [] := by
    have := Own.made 29 (w.alloc (.cells #[.int .i64 f, .int .i64 b, .int .i64 g] 29)) (w.heap.size + 1) 3 encE (by simp)
    rw [show (w.alloc (.cells #[.int .i64 f, .int .i64 b, .int .i64 g] 29)).heap.size = w.heap.size + 1 by simp] at this
    exact this
  obtain ⟨n, cap, hn, hnc, hcap, ⟨hn0, ao, rfl⟩ | ⟨hn0, b0, off, rfl, hc⟩⟩ := hv.cases
  all_goals
    have hn1 : n ≤ 100 := by have := hn.out; omega
    clear hv
    go_enter Try.func58, Try.ntmps58
    go_wp2
    go_loopw [5, 6, 7] (fun s5 s6 s7 wr => ∃ (k : Nat) (O : List Ent) (p : Bool), k ≤ n ∧ s6 = .bool p ∧ s7 = .int .i64 k ∧ Hid (pst (f, b, g) T k = (O, p)) ∧ O.length ≤ k + 1 ∧ Own 29 wr (w.heap.size + 1) s5 3 encE O ∧ Fb w wr [(w.heap.size, [.int .i64 f, .int .i64 b, .int .i64 g])] ∧ w.heap.size + 1 ≤ wr.heap.size) (fun _ _ s7 _ => n - (intOf s7).toNat)
    case atStart => exact ⟨0, [], false, Nat.zero_le _, rfl, rfl, rfl, by simp, hO, hF, by simp⟩
    case round =>
      clear hF hO
      obtain ⟨k, O, p, hk, rfl, rfl, hst, hOl, hO, hF, hsz⟩ := hrel
      by_cases hlt : k < n
      · try (exfalso; omega)
        all_goals
          obtain ⟨y, hy⟩ := get_of hn.out hlt
          obtain ⟨c0, c1, c2⟩ := ents3 hc.out hy
          have hss := Lib.hid (pst_s (e := (f, b, g)) hy)
          have hle2 := pst_len (f, b, g) T (k + 1)
          rw [hss.out, hst.out] at hle2
          clear hy
          obtain ⟨yf, yb, yv⟩ := y
          dsimp only at c0 c1 c2
          have HB0 := Lib.hid c0
          have HB1 := Lib.hid c1
          have HB2 := Lib.hid c2
          have cc0 := fun x : Cl wr.heap.size wr => Cl.old hF x HB0.out
          have cc1 := fun x : Cl wr.heap.size wr => Cl.old hF x HB1.out
          have oc := fun x : Cl _ wr => (Fb.cl hF x).own; simp only [World.size_alloc, World.size_drew, World.size_setCell, List.mem_cons, List.not_mem_nil, or_false, forall_eq_or_imp, forall_eq, At, and_true, Nat.zero_add, Nat.reduceAdd, List.set_cons_zero, List.set_cons_succ] at oc
          clear c0 c1 c2
          obtain ⟨c, hc'⟩ : ∃ c, rcmp yf yb f b = c := ⟨_, rfl⟩
          have hss2 : Hid (pst (f, b, g) T (k + 1) = pstF (f, b, g) (yf, yb, yv) (O, p)) := by show _ = _; rw [hss.out, hst.out]
          have hec : ecmp (yf, yb, yv) (f, b, g) = c := hc'
          have hss3 : Hid (pst (f, b, g) T (k + 1) = (if c ≠ 0 then ((if p = false ∧ 0 ≤ c then (O ++ [(f, b, g)], true) else (O, p)).1 ++ [(yf, yb, yv)], (if p = false ∧ 0 ≤ c then (O ++ [(f, b, g)], true) else (O, p)).2) else (if p = false ∧ 0 ≤ c then (O ++ [(f, b, g)], true) else (O, p)))) := by
            have := hss2.out
            unfold pstF at this
            rw [hec] at this
            exact this
          have hle := Lib.hid (pst_len (f, b, g) T (k + 1))
          clear hss hec hss2
          have hol : O.length ≤ 101 := by omega
          cases p
          · by_cases h1 : c < 0
            · have dC : decide (0 ≤ c) = false := by simp; omega
              have dn : (c != 0) = true := by simp; omega
              have hN : Hid (pst (f, b, g) T (k + 1) = (O ++ [(yf, yb, yv)], false)) := by
                show _ = _; rw [hss3.out, if_pos (by omega), if_neg (by omega)]
              have hl2 := hle.out
              rw [hN.out] at hl2
              dsimp only at hl2
              clear h1
              go_wp2
              first | refine wp_region_new (by kernel_rfl) (by kernel_rfl) ?_ | refine wp_region_lex ?_
              repeat (any_goals (first | go_big_quiet_step (((go_at_call 47; exact Calls.cl (l1Cmp_any _ _ _ _ _)))) | (refine wpQuiet_step (fun K hK => ?_); go_simp; split <;> (rename_i hg; refine hK _ ?_; clear hK K; simp only [hg, decide_true, decide_false]))))
              all_goals (refine wpQuiet_nil ?_; intro x)
              replace hF := hF.cl x
              replace hO := hO.below x.below
              have hsw := x.below.size
              have c0 := hF.old HB0.out
              have c1 := hF.old HB1.out
              have c2 := hF.old HB2.out
              have o := hF.own; simp only [World.size_alloc, World.size_drew, World.size_setCell, List.mem_cons, List.not_mem_nil, or_false, forall_eq_or_imp, forall_eq, At, and_true, Nat.zero_add, Nat.reduceAdd, List.set_cons_zero, List.set_cons_succ] at o
              go_wp2_with (first | (at_builtin; refine wpList_app rfl _ _ 23 rfl 29 (.agg #[.int .i64 0, .int .i64 0, .int .i64 0]) 3 24 Try.underlying23 infoEnt rfl (by decide) (by decide) (w.heap.size + 1) encE _ _ rfl (hO.alloc _) (((f, b, g) : Ent)) ⟨_, 0, none⟩ 1 rfl rfl (cells_new _ _ _) (by simp [encE, Value.oneCell']) (by first | omega | (simp only [List.length_append, List.length_cons, List.length_nil]; omega)) (by simp only [World.size_alloc]; omega) ?_; intro v' wx hO1 hg1 hb1 hf1; (have hsx := hb1.size; simp only [World.size_alloc] at hsx; replace hO := hO1; replace hF := (hF.other _).belowB hb1 (by omega) (by simp); clear hO1 hg1 hb1 hf1 c0 c1 c2 o; have c0 := hF.old HB0.out; have c1 := hF.old HB1.out; have c2 := hF.old HB2.out; have o := hF.own; simp only [World.size_alloc, World.size_drew, World.size_setCell, List.mem_cons, List.not_mem_nil, or_false, forall_eq_or_imp, forall_eq, At, and_true, Nat.zero_add, Nat.reduceAdd, List.set_cons_zero, List.set_cons_succ] at o)) | (at_builtin; refine wpList_app rfl _ _ 23 rfl 29 (.agg #[.int .i64 0, .int .i64 0, .int .i64 0]) 3 24 Try.underlying23 infoEnt rfl (by decide) (by decide) (w.heap.size + 1) encE _ _ rfl (hO.alloc _) (((yf, yb, yv) : Ent)) ⟨_, 0, none⟩ 1 rfl rfl (cells_new _ _ _) (by simp [encE, Value.oneCell']) (by first | omega | (simp only [List.length_append, List.length_cons, List.length_nil]; omega)) (by simp only [World.size_alloc]; omega) ?_; intro v' wx hO1 hg1 hb1 hf1; (have hsx := hb1.size; simp only [World.size_alloc] at hsx; replace hO := hO1; replace hF := (hF.other _).belowB hb1 (by omega) (by simp); clear hO1 hg1 hb1 hf1 c0 c1 c2 o; have c0 := hF.old HB0.out; have c1 := hF.old HB1.out; have c2 := hF.old HB2.out; have o := hF.own; simp only [World.size_alloc, World.size_drew, World.size_setCell, List.mem_cons, List.not_mem_nil, or_false, forall_eq_or_imp, forall_eq, At, and_true, Nat.zero_add, Nat.reduceAdd, List.set_cons_zero, List.set_cons_succ] at o)))
              go_roundw
              case rel => exact ⟨k + 1, _, false, by omega, rfl, by go_num, hN, (by simp at hl2 ⊢; omega), hO, hF, by omega⟩
              case measure => simp [intOf]; omega
            · by_cases h2 : c = 0
              · subst h2
                have hN : Hid (pst (f, b, g) T (k + 1) = (O ++ [(f, b, g)], true)) := by
                  show _ = _; rw [hss3.out, if_neg (by simp), if_pos ⟨rfl, Int.le_refl _⟩]
                have hl2 := hle.out
                rw [hN.out] at hl2
                dsimp only at hl2
                clear h1
                go_wp2
                first | refine wp_region_new (by kernel_rfl) (by kernel_rfl) ?_ | refine wp_region_lex ?_
                repeat (any_goals (first | go_big_quiet_step (((go_at_call 47; exact Calls.cl (l1Cmp_any _ _ _ _ _)))) | (refine wpQuiet_step (fun K hK => ?_); go_simp; split <;> (rename_i hg; refine hK _ ?_; clear hK K; simp only [hg, decide_true, decide_false]))))
                all_goals (refine wpQuiet_nil ?_; intro x)
                replace hF := hF.cl x
                replace hO := hO.below x.below
                have hsw := x.below.size
                have c0 := hF.old HB0.out
                have c1 := hF.old HB1.out
                have c2 := hF.old HB2.out
                have o := hF.own; simp only [World.size_alloc, World.size_drew, World.size_setCell, List.mem_cons, List.not_mem_nil, or_false, forall_eq_or_imp, forall_eq, At, and_true, Nat.zero_add, Nat.reduceAdd, List.set_cons_zero, List.set_cons_succ] at o
                go_wp2_with (first | (at_builtin; refine wpList_app rfl _ _ 23 rfl 29 (.agg #[.int .i64 0, .int .i64 0, .int .i64 0]) 3 24 Try.underlying23 infoEnt rfl (by decide) (by decide) (w.heap.size + 1) encE _ _ rfl (hO.alloc _) (((f, b, g) : Ent)) ⟨_, 0, none⟩ 1 rfl rfl (cells_new _ _ _) (by simp [encE, Value.oneCell']) (by first | omega | (simp only [List.length_append, List.length_cons, List.length_nil]; omega)) (by simp only [World.size_alloc]; omega) ?_; intro v' wx hO1 hg1 hb1 hf1; (have hsx := hb1.size; simp only [World.size_alloc] at hsx; replace hO := hO1; replace hF := (hF.other _).belowB hb1 (by omega) (by simp); clear hO1 hg1 hb1 hf1 c0 c1 c2 o; have c0 := hF.old HB0.out; have c1 := hF.old HB1.out; have c2 := hF.old HB2.out; have o := hF.own; simp only [World.size_alloc, World.size_drew, World.size_setCell, List.mem_cons, List.not_mem_nil, or_false, forall_eq_or_imp, forall_eq, At, and_true, Nat.zero_add, Nat.reduceAdd, List.set_cons_zero, List.set_cons_succ] at o)) | (at_builtin; refine wpList_app rfl _ _ 23 rfl 29 (.agg #[.int .i64 0, .int .i64 0, .int .i64 0]) 3 24 Try.underlying23 infoEnt rfl (by decide) (by decide) (w.heap.size + 1) encE _ _ rfl (hO.alloc _) (((yf, yb, yv) : Ent)) ⟨_, 0, none⟩ 1 rfl rfl (cells_new _ _ _) (by simp [encE, Value.oneCell']) (by first | omega | (simp only [List.length_append, List.length_cons, List.length_nil]; omega)) (by simp only [World.size_alloc]; omega) ?_; intro v' wx hO1 hg1 hb1 hf1; (have hsx := hb1.size; simp only [World.size_alloc] at hsx; replace hO := hO1; replace hF := (hF.other _).belowB hb1 (by omega) (by simp); clear hO1 hg1 hb1 hf1 c0 c1 c2 o; have c0 := hF.old HB0.out; have c1 := hF.old HB1.out; have c2 := hF.old HB2.out; have o := hF.own; simp only [World.size_alloc, World.size_drew, World.size_setCell, List.mem_cons, List.not_mem_nil, or_false, forall_eq_or_imp, forall_eq, At, and_true, Nat.zero_add, Nat.reduceAdd, List.set_cons_zero, List.set_cons_succ] at o)))
                go_roundw
                case rel => exact ⟨k + 1, _, true, by omega, rfl, by go_num, hN, (by simp at hl2 ⊢; omega), hO, hF, by omega⟩
                case measure => simp [intOf]; omega
              · have dC : decide (0 ≤ c) = true := by simp; omega
                have dn : (c != 0) = true := by simp [h2]
                have hN : Hid (pst (f, b, g) T (k + 1) = (O ++ [(f, b, g)] ++ [(yf, yb, yv)], true)) := by
                  show _ = _; rw [hss3.out, if_pos h2, if_pos ⟨rfl, by omega⟩]
                have hl2 := hle.out
                rw [hN.out] at hl2
                dsimp only at hl2
                clear h1 h2
                go_wp2
                first | refine wp_region_new (by kernel_rfl) (by kernel_rfl) ?_ | refine wp_region_lex ?_
                repeat (any_goals (first | go_big_quiet_step (((go_at_call 47; exact Calls.cl (l1Cmp_any _ _ _ _ _)))) | (refine wpQuiet_step (fun K hK => ?_); go_simp; split <;> (rename_i hg; refine hK _ ?_; clear hK K; simp only [hg, decide_true, decide_false]))))
                all_goals (refine wpQuiet_nil ?_; intro x)
                replace hF := hF.cl x
                replace hO := hO.below x.below
                have hsw := x.below.size
                have c0 := hF.old HB0.out
                have c1 := hF.old HB1.out
                have c2 := hF.old HB2.out
                have o := hF.own; simp only [World.size_alloc, World.size_drew, World.size_setCell, List.mem_cons, List.not_mem_nil, or_false, forall_eq_or_imp, forall_eq, At, and_true, Nat.zero_add, Nat.reduceAdd, List.set_cons_zero, List.set_cons_succ] at o
                go_wp2_with (first | (at_builtin; refine wpList_app rfl _ _ 23 rfl 29 (.agg #[.int .i64 0, .int .i64 0, .int .i64 0]) 3 24 Try.underlying23 infoEnt rfl (by decide) (by decide) (w.heap.size + 1) encE _ _ rfl (hO.alloc _) (((f, b, g) : Ent)) ⟨_, 0, none⟩ 1 rfl rfl (cells_new _ _ _) (by simp [encE, Value.oneCell']) (by first | omega | (simp only [List.length_append, List.length_cons, List.length_nil]; omega)) (by simp only [World.size_alloc]; omega) ?_; intro v' wx hO1 hg1 hb1 hf1; (have hsx := hb1.size; simp only [World.size_alloc] at hsx; replace hO := hO1; replace hF := (hF.other _).belowB hb1 (by omega) (by simp); clear hO1 hg1 hb1 hf1 c0 c1 c2 o; have c0 := hF.old HB0.out; have c1 := hF.old HB1.out; have c2 := hF.old HB2.out; have o := hF.own; simp only [World.size_alloc, World.size_drew, World.size_setCell, List.mem_cons, List.not_mem_nil, or_false, forall_eq_or_imp, forall_eq, At, and_true, Nat.zero_add, Nat.reduceAdd, List.set_cons_zero, List.set_cons_succ] at o)) | (at_builtin; refine wpList_app rfl _ _ 23 rfl 29 (.agg #[.int .i64 0, .int .i64 0, .int .i64 0]) 3 24 Try.underlying23 infoEnt rfl (by decide) (by decide) (w.heap.size + 1) encE _ _ rfl (hO.alloc _) (((yf, yb, yv) : Ent)) ⟨_, 0, none⟩ 1 rfl rfl (cells_new _ _ _) (by simp [encE, Value.oneCell']) (by first | omega | (simp only [List.length_append, List.length_cons, List.length_nil]; omega)) (by simp only [World.size_alloc]; omega) ?_; intro v' wx hO1 hg1 hb1 hf1; (have hsx := hb1.size; simp only [World.size_alloc] at hsx; replace hO := hO1; replace hF := (hF.other _).belowB hb1 (by omega) (by simp); clear hO1 hg1 hb1 hf1 c0 c1 c2 o; have c0 := hF.old HB0.out; have c1 := hF.old HB1.out; have c2 := hF.old HB2.out; have o := hF.own; simp only [World.size_alloc, World.size_drew, World.size_setCell, List.mem_cons, List.not_mem_nil, or_false, forall_eq_or_imp, forall_eq, At, and_true, Nat.zero_add, Nat.reduceAdd, List.set_cons_zero, List.set_cons_succ] at o)))
                go_roundw
                case rel => exact ⟨k + 1, _, true, by omega, rfl, by go_num, hN, (by simp at hl2 ⊢; omega), hO, hF, by omega⟩
                case measure => simp [intOf]; omega
          · by_cases h2 : c = 0
            · subst h2
              have hN : Hid (pst (f, b, g) T (k + 1) = (O, true)) := by
                show _ = _; rw [hss3.out, if_neg (by simp), if_neg (by simp)]
              have hl2 := hle.out
              rw [hN.out] at hl2
              dsimp only at hl2
              go_wp2
              first | refine wp_region_new (by kernel_rfl) (by kernel_rfl) ?_ | refine wp_region_lex ?_
              repeat (any_goals (first | go_big_quiet_step (((go_at_call 47; exact Calls.cl (l1Cmp_any _ _ _ _ _)))) | (refine wpQuiet_step (fun K hK => ?_); go_simp; split <;> (rename_i hg; refine hK _ ?_; clear hK K; simp only [hg, decide_true, decide_false]))))
              all_goals (refine wpQuiet_nil ?_; intro x)
              replace hF := hF.cl x
              replace hO := hO.below x.below
              have hsw := x.below.size
              have c0 := hF.old HB0.out
              have c1 := hF.old HB1.out
              have c2 := hF.old HB2.out
              have o := hF.own; simp only [World.size_alloc, World.size_drew, World.size_setCell, List.mem_cons, List.not_mem_nil, or_false, forall_eq_or_imp, forall_eq, At, and_true, Nat.zero_add, Nat.reduceAdd, List.set_cons_zero, List.set_cons_succ] at o
              go_wp2_with (first | (at_builtin; refine wpList_app rfl _ _ 23 rfl 29 (.agg #[.int .i64 0, .int .i64 0, .int .i64 0]) 3 24 Try.underlying23 infoEnt rfl (by decide) (by decide) (w.heap.size + 1) encE _ _ rfl (hO.alloc _) (((f, b, g) : Ent)) ⟨_, 0, none⟩ 1 rfl rfl (cells_new _ _ _) (by simp [encE, Value.oneCell']) (by first | omega | (simp only [List.length_append, List.length_cons, List.length_nil]; omega)) (by simp only [World.size_alloc]; omega) ?_; intro v' wx hO1 hg1 hb1 hf1; (have hsx := hb1.size; simp only [World.size_alloc] at hsx; replace hO := hO1; replace hF := (hF.other _).belowB hb1 (by omega) (by simp); clear hO1 hg1 hb1 hf1 c0 c1 c2 o; have c0 := hF.old HB0.out; have c1 := hF.old HB1.out; have c2 := hF.old HB2.out; have o := hF.own; simp only [World.size_alloc, World.size_drew, World.size_setCell, List.mem_cons, List.not_mem_nil, or_false, forall_eq_or_imp, forall_eq, At, and_true, Nat.zero_add, Nat.reduceAdd, List.set_cons_zero, List.set_cons_succ] at o)) | (at_builtin; refine wpList_app rfl _ _ 23 rfl 29 (.agg #[.int .i64 0, .int .i64 0, .int .i64 0]) 3 24 Try.underlying23 infoEnt rfl (by decide) (by decide) (w.heap.size + 1) encE _ _ rfl (hO.alloc _) (((yf, yb, yv) : Ent)) ⟨_, 0, none⟩ 1 rfl rfl (cells_new _ _ _) (by simp [encE, Value.oneCell']) (by first | omega | (simp only [List.length_append, List.length_cons, List.length_nil]; omega)) (by simp only [World.size_alloc]; omega) ?_; intro v' wx hO1 hg1 hb1 hf1; (have hsx := hb1.size; simp only [World.size_alloc] at hsx; replace hO := hO1; replace hF := (hF.other _).belowB hb1 (by omega) (by simp); clear hO1 hg1 hb1 hf1 c0 c1 c2 o; have c0 := hF.old HB0.out; have c1 := hF.old HB1.out; have c2 := hF.old HB2.out; have o := hF.own; simp only [World.size_alloc, World.size_drew, World.size_setCell, List.mem_cons, List.not_mem_nil, or_false, forall_eq_or_imp, forall_eq, At, and_true, Nat.zero_add, Nat.reduceAdd, List.set_cons_zero, List.set_cons_succ] at o)))
              go_roundw
              case rel => exact ⟨k + 1, _, true, by omega, rfl, by go_num, hN, (by simp at hl2 ⊢; omega), hO, hF, by omega⟩
              case measure => simp [intOf]; omega
            · have dn : (c != 0) = true := by simp [h2]
              have hN : Hid (pst (f, b, g) T (k + 1) = (O ++ [(yf, yb, yv)], true)) := by
                show _ = _; rw [hss3.out, if_pos h2, if_neg (by simp)]
              have hl2 := hle.out
              rw [hN.out] at hl2
              dsimp only at hl2
              clear h2
              go_wp2
              first | refine wp_region_new (by kernel_rfl) (by kernel_rfl) ?_ | refine wp_region_lex ?_
              repeat (any_goals (first | go_big_quiet_step (((go_at_call 47; exact Calls.cl (l1Cmp_any _ _ _ _ _)))) | (refine wpQuiet_step (fun K hK => ?_); go_simp; split <;> (rename_i hg; refine hK _ ?_; clear hK K; simp only [hg, decide_true, decide_false]))))
              all_goals (refine wpQuiet_nil ?_; intro x)
              replace hF := hF.cl x
              replace hO := hO.below x.below
              have hsw := x.below.size
              have c0 := hF.old HB0.out
              have c1 := hF.old HB1.out
              have c2 := hF.old HB2.out
              have o := hF.own; simp only [World.size_alloc, World.size_drew, World.size_setCell, List.mem_cons, List.not_mem_nil, or_false, forall_eq_or_imp, forall_eq, At, and_true, Nat.zero_add, Nat.reduceAdd, List.set_cons_zero, List.set_cons_succ] at o
              go_wp2_with (first | (at_builtin; refine wpList_app rfl _ _ 23 rfl 29 (.agg #[.int .i64 0, .int .i64 0, .int .i64 0]) 3 24 Try.underlying23 infoEnt rfl (by decide) (by decide) (w.heap.size + 1) encE _ _ rfl (hO.alloc _) (((f, b, g) : Ent)) ⟨_, 0, none⟩ 1 rfl rfl (cells_new _ _ _) (by simp [encE, Value.oneCell']) (by first | omega | (simp only [List.length_append, List.length_cons, List.length_nil]; omega)) (by simp only [World.size_alloc]; omega) ?_; intro v' wx hO1 hg1 hb1 hf1; (have hsx := hb1.size; simp only [World.size_alloc] at hsx; replace hO := hO1; replace hF := (hF.other _).belowB hb1 (by omega) (by simp); clear hO1 hg1 hb1 hf1 c0 c1 c2 o; have c0 := hF.old HB0.out; have c1 := hF.old HB1.out; have c2 := hF.old HB2.out; have o := hF.own; simp only [World.size_alloc, World.size_drew, World.size_setCell, List.mem_cons, List.not_mem_nil, or_false, forall_eq_or_imp, forall_eq, At, and_true, Nat.zero_add, Nat.reduceAdd, List.set_cons_zero, List.set_cons_succ] at o)) | (at_builtin; refine wpList_app rfl _ _ 23 rfl 29 (.agg #[.int .i64 0, .int .i64 0, .int .i64 0]) 3 24 Try.underlying23 infoEnt rfl (by decide) (by decide) (w.heap.size + 1) encE _ _ rfl (hO.alloc _) (((yf, yb, yv) : Ent)) ⟨_, 0, none⟩ 1 rfl rfl (cells_new _ _ _) (by simp [encE, Value.oneCell']) (by first | omega | (simp only [List.length_append, List.length_cons, List.length_nil]; omega)) (by simp only [World.size_alloc]; omega) ?_; intro v' wx hO1 hg1 hb1 hf1; (have hsx := hb1.size; simp only [World.size_alloc] at hsx; replace hO := hO1; replace hF := (hF.other _).belowB hb1 (by omega) (by simp); clear hO1 hg1 hb1 hf1 c0 c1 c2 o; have c0 := hF.old HB0.out; have c1 := hF.old HB1.out; have c2 := hF.old HB2.out; have o := hF.own; simp only [World.size_alloc, World.size_drew, World.size_setCell, List.mem_cons, List.not_mem_nil, or_false, forall_eq_or_imp, forall_eq, At, and_true, Nat.zero_add, Nat.reduceAdd, List.set_cons_zero, List.set_cons_succ] at o)))
              go_roundw
              case rel => exact ⟨k + 1, _, true, by omega, rfl, by go_num, hN, (by simp at hl2 ⊢; omega), hO, hF, by omega⟩
              case measure => simp [intOf]; omega
      · obtain rfl : k = n := by omega
        have o := hF.own; simp only [World.size_alloc, World.size_drew, World.size_setCell, List.mem_cons, List.not_mem_nil, or_false, forall_eq_or_imp, forall_eq, At, and_true, Nat.zero_add, Nat.reduceAdd, List.set_cons_zero, List.set_cons_succ] at o
        cases p
        · have hp : Hid (put T (f, b, g) = O ++ [(f, b, g)]) := by
            show _ = _; unfold put; rw [hn.out, hst.out]; simp
          have hol : O.length ≤ 101 := by omega
          go_wp2_with ((at_builtin; refine wpList_app rfl _ _ 23 rfl 29 (.agg #[.int .i64 0, .int .i64 0, .int .i64 0]) 3 24 Try.underlying23 infoEnt rfl (by decide) (by decide) (w.heap.size + 1) encE _ _ rfl (hO.alloc _) (((f, b, g) : Ent)) ⟨_, 0, none⟩ 1 rfl rfl (cells_new _ _ _) (by simp [encE, Value.oneCell']) (by first | omega | (simp only [List.length_append, List.length_cons, List.length_nil]; omega)) (by simp only [World.size_alloc]; omega) ?_; intro v' wx hO1 hg1 hb1 hf1; (have hsx := hb1.size; simp only [World.size_alloc] at hsx; replace hO := hO1; replace hF := (hF.other _).belowB hb1 (by omega) (by simp); clear hO1 hg1 hb1 hf1 o)))
          go_ret
          exact ⟨_, rfl, by rw [hp.out]; exact hO.base (by omega), hF.kp⟩
        · have hp : Hid (put T (f, b, g) = O) := by
            show _ = _; unfold put; rw [hn.out, hst.out]; simp
          go_wp2
          go_ret
          exact ⟨_, rfl, by rw [hp.out]; exact hO.base (by omega), hF.kp⟩
end Go.Proofs.Ytbhenfegklgkoaa
