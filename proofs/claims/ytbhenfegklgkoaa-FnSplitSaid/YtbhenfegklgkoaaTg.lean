/- Tables: where a range stands (the program's binary search). -/
import Derived.Test.YtbhenfegklgkoaaTf
set_option linter.unusedSimpArgs false
set_option linter.unusedVariables false
namespace Go.Proofs.Ytbhenfegklgkoaa
open Go.RowKit

theorem place1_any (f b g c d : Int) (w : World) :
    Calls Try.prog 72 #[.agg #[.int .i64 f, .int .i64 b, .int .i64 g], .agg #[.int .i64 c, .int .i64 d]] w fun e w' => e = .returned (.int .i64 (RC f b c d)) ∧ Below w.heap.size w w' := by
  have hF := ((Fb.start w).alloc [.int .i64 f, .int .i64 b, .int .i64 g] 29).alloc [.int .i64 c, .int .i64 d] 27
  go_enter Try.func72, Try.ntmps72
  go_wp2_with (go_at_call 45; go_must (refine (iRangeCmp_any _ _ _ _ _).mono ?_); rintro e wx ⟨rfl, hbx⟩; replace hF := Fb.below (by repeat (first | assumption | apply Fb.alloc_1 | apply Fb.alloc_2 | apply Fb.alloc_3 | apply Fb.alloc_4 | apply Fb.alloc_5 | apply Fb.alloc_8 | apply Fb.drew | apply Fb.drewN | apply Fb.other)) hbx; clear hbx; (try clear o); have o := hF.own; simp only [World.size_alloc, World.size_drew, World.size_setCell, List.mem_cons, List.not_mem_nil, or_false, forall_eq_or_imp, forall_eq, At, and_true, Nat.zero_add, Nat.reduceAdd, List.set_cons_zero, List.set_cons_succ] at o)
  (go_ret; exact ⟨rfl, Fb.kp (by repeat (first | assumption | apply Fb.alloc_1 | apply Fb.alloc_2 | apply Fb.alloc_3 | apply Fb.alloc_4 | apply Fb.alloc_5 | apply Fb.alloc_8 | apply Fb.drew | apply Fb.drewN | apply Fb.other))⟩)
/-- All ahead of i stand ahead of e, and none from j on does. -/
structure Bs (T : List Ent) (e : Ent) (i j : Nat) : Prop where
  lo : ∀ q x, q < i → T[q]? = some x → ecmp x e < 0
  hi : ∀ q x, j ≤ q → T[q]? = some x → 0 ≤ ecmp x e
theorem bs_up {T : List Ent} {e : Ent} {i j h : Nat} {x : Ent} (hT : Srt T) (hb : Bs T e i j) (hx : T[h]? = some x) (hc : ecmp x e < 0) : Bs T e (h + 1) j :=
  ⟨fun q y hq hy => by
    by_cases e1 : q = h
    · subst e1; rw [hx] at hy; injection hy with hy; subst hy; exact hc
    · obtain ⟨l1, v1⟩ := List.getElem?_eq_some_iff.1 hy
      obtain ⟨l2, v2⟩ := List.getElem?_eq_some_iff.1 hx
      have := List.pairwise_iff_getElem.1 hT q h l1 l2 (by omega)
      rw [v1, v2] at this
      exact Lt.trans this hc, hb.hi⟩
theorem bs_dn {T : List Ent} {e : Ent} {i j h : Nat} {x : Ent} (hT : Srt T) (hb : Bs T e i j) (hx : T[h]? = some x) (hc : 0 ≤ ecmp x e) : Bs T e i h :=
  ⟨hb.lo, fun q y hq hy => by
    by_cases e1 : q = h
    · subst e1; rw [hx] at hy; injection hy with hy; subst hy; exact hc
    · obtain ⟨l1, v1⟩ := List.getElem?_eq_some_iff.1 hy
      obtain ⟨l2, v2⟩ := List.getElem?_eq_some_iff.1 hx
      have := List.pairwise_iff_getElem.1 hT h q l2 l1 (by omega)
      rw [v1, v2] at this
      refine Int.not_lt.1 fun g => ?_
      have := Lt.trans this g
      have h2 : ecmp x e < 0 := this
      omega⟩
theorem bs_start (T : List Ent) (e : Ent) {n : Nat} (hn : T.length = n) : Bs T e 0 n :=
  ⟨fun q x h => by omega, fun q x h hx => by have := (List.getElem?_eq_some_iff.1 hx).1; omega⟩
set_option maxHeartbeats 2000000 in
theorem search_any (v : Value) (T : List Ent) (f b : Int) (w : World) (hv : Ents w v T) (hT : TOk T) (hr : ROk f b) :
    Calls Try.prog 71 #[v, .agg #[.int .i64 f, .int .i64 b], .func (.func 72) #[] #[]] w fun e w' => ∃ (k : Nat) (y : Bool), e = .returned (.tuple #[.int .i64 k, .bool y]) ∧ k ≤ T.length ∧ Bs T (f, b, 0) k k ∧ (y = true ↔ ∃ x, T[k]? = some x ∧ ecmp x (f, b, 0) = 0) ∧ Below w.heap.size w w' := by
  have hF := (Fb.start w).alloc [.int .i64 f, .int .i64 b] 27
  have hS := Lib.hid (tok_srt hT)
  obtain ⟨n, cap, hn, hnc, hcap, hv'⟩ := hv.cases
  have hn12 : n ≤ 12 := by have := hT.2; have := hn.out; omega
  have HT := Lib.hid hT
  have HR := Lib.hid hr
  clear hT hr
  rcases hv' with ⟨hn0, ao, rfl⟩ | ⟨hn0, b0, off, rfl, hc⟩
  all_goals
    clear hv
    go_enter Try.func71, Try.ntmps71
    go_wp2
    go_loopw [9, 10] (fun s9 s10 wr => ∃ i j : Nat, s9 = .int .i64 i ∧ s10 = .int .i64 j ∧ i ≤ j ∧ j ≤ n ∧ Hid (Bs T (f, b, 0) i j) ∧ Fb w wr [(w.heap.size, [.int .i64 f, .int .i64 b])]) (fun s9 s10 _ => (intOf s10 - intOf s9).toNat)
    case atStart => exact ⟨0, n, rfl, rfl, by omega, Nat.le_refl _, bs_start T _ hn.out, hF⟩
    case round =>
      clear hF
      obtain ⟨i, j, rfl, rfl, hij, hjn, hb, hF⟩ := hrel
      by_cases hlt : i < j
      · try (exfalso; omega)
        all_goals
          obtain ⟨h, h1, h2⟩ : ∃ h : Nat, 2 * h ≤ i + j ∧ i + j ≤ 2 * h + 1 := ⟨(i + j) / 2, by omega, by omega⟩
          have hhn : h < n := by omega
          have hh : ((i : Int) + (j : Int)) / 2 = (h : Int) := by omega
          obtain ⟨y, hy⟩ := get_of hn.out hhn
          obtain ⟨c0, c1, c2⟩ := ents3 hc.out hy
          have hEy := tok_ep HT.out (List.mem_of_getElem? hy)
          have HY := Lib.hid hy
          clear hy
          obtain ⟨yf, yb, yv⟩ := y
          dsimp only at c0 c1 c2
          have cc0 := fun x : Cl wr.heap.size wr => Cl.old hF x c0
          have cc1 := fun x : Cl wr.heap.size wr => Cl.old hF x c1
          have cc2 := fun x : Cl wr.heap.size wr => Cl.old hF x c2
          have oc := fun x : Cl _ wr => (Fb.cl hF x).own; simp only [World.size_alloc, World.size_drew, World.size_setCell, List.mem_cons, List.not_mem_nil, or_false, forall_eq_or_imp, forall_eq, At, and_true, Nat.zero_add, Nat.reduceAdd, List.set_cons_zero, List.set_cons_succ] at oc
          have hRC : RC yf yb f b = ecmp (yf, yb, yv) (f, b, 0) := RC_ok hEy.1 HR.out
          clear c0 c1 c2 hEy
          by_cases hC : ecmp (yf, yb, yv) (f, b, 0) < 0
          · have dC : decide (ecmp (yf, yb, yv) (f, b, 0) < 0) = true := by simp [hC]
            have hb2 := Lib.hid (bs_up hS.out hb.out HY.out hC)
            clear hC
            go_wp2
            first | refine wp_region_new (by kernel_rfl) (by kernel_rfl) ?_ | refine wp_region_lex ?_
            repeat (any_goals (first | go_big_quiet_step (((go_at_call 72; exact Calls.cl (place1_any _ _ _ _ _ _)))) | (refine wpQuiet_step (fun K hK => ?_); go_simp; split <;> (rename_i hg; refine hK _ ?_; clear hK K; simp only [hg, decide_true, decide_false]))))
            all_goals (refine wpQuiet_nil ?_; intro x)
            go_wp2
            go_roundw
            case rel => exact ⟨h + 1, j, by go_num, rfl, by omega, hjn, hb2, hF.cl x⟩
            case measure => simp [intOf]; omega
          · have dC : decide (ecmp (yf, yb, yv) (f, b, 0) < 0) = false := by simp; omega
            have hb2 := Lib.hid (bs_dn hS.out hb.out HY.out (by omega))
            clear hC
            go_wp2
            first | refine wp_region_new (by kernel_rfl) (by kernel_rfl) ?_ | refine wp_region_lex ?_
            repeat (any_goals (first | go_big_quiet_step (((go_at_call 72; exact Calls.cl (place1_any _ _ _ _ _ _)))) | (refine wpQuiet_step (fun K hK => ?_); go_simp; split <;> (rename_i hg; refine hK _ ?_; clear hK K; simp only [hg, decide_true, decide_false]))))
            all_goals (refine wpQuiet_nil ?_; intro x)
            go_wp2
            go_roundw
            case rel => exact ⟨i, h, rfl, by go_num, by omega, by omega, hb2, hF.cl x⟩
            case measure => simp [intOf]; omega
      · obtain rfl : i = j := by omega
        by_cases hin : i < n
        · try (exfalso; omega)
          all_goals
            have d1 : decide ((i : Int) < (n : Int)) = true := by simp; omega
            have d1' : decide (i < n) = true := by simp [hin]
            obtain ⟨y, hy⟩ := get_of hn.out hin
            obtain ⟨c0, c1, c2⟩ := ents3 hc.out hy
            have hEy := tok_ep HT.out (List.mem_of_getElem? hy)
            have HY := Lib.hid hy
            clear hy
            obtain ⟨yf, yb, yv⟩ := y
            dsimp only at c0 c1 c2
            have cc0 := fun x : Cl wr.heap.size wr => Cl.old hF x c0
            have cc1 := fun x : Cl wr.heap.size wr => Cl.old hF x c1
            have cc2 := fun x : Cl wr.heap.size wr => Cl.old hF x c2
            have oc := fun x : Cl _ wr => (Fb.cl hF x).own; simp only [World.size_alloc, World.size_drew, World.size_setCell, List.mem_cons, List.not_mem_nil, or_false, forall_eq_or_imp, forall_eq, At, and_true, Nat.zero_add, Nat.reduceAdd, List.set_cons_zero, List.set_cons_succ] at oc
            have hRC : RC yf yb f b = ecmp (yf, yb, yv) (f, b, 0) := RC_ok hEy.1 HR.out
            clear c0 c1 c2 hEy
            obtain ⟨y, hy⟩ : ∃ y, (ecmp (yf, yb, yv) (f, b, 0) == 0) = y := ⟨_, rfl⟩
            have hiff : Hid (y = true ↔ ∃ x, T[i]? = some x ∧ ecmp x (f, b, 0) = 0) := by
              show _ ↔ _
              rw [← hy, beq_iff_eq]
              exact ⟨fun g => ⟨_, HY.out, g⟩, fun ⟨x, g1, g2⟩ => by rw [HY.out] at g1; injection g1 with g1; rw [g1]; exact g2⟩
            go_wp2
            first | refine wp_region_new (by kernel_rfl) (by kernel_rfl) ?_ | refine wp_region_lex ?_
            repeat (any_goals (first | go_big_quiet_step (((go_at_call 72; exact Calls.cl (place1_any _ _ _ _ _ _)))) | (refine wpQuiet_step (fun K hK => ?_); go_simp; split <;> (rename_i hg; refine hK _ ?_; clear hK K; simp only [hg, decide_true, decide_false]))))
            all_goals (refine wpQuiet_nil ?_; intro x)
            go_wp2
            go_ret2
            exact ⟨i, y, rfl, by rw [hn.out]; omega, hb.out, hiff.out, (hF.cl x).kp⟩
        · have d1 : decide ((i : Int) < (n : Int)) = false := by simp; omega
          have d1' : decide (i < n) = false := by simp; omega
          have hiff : Hid (false = true ↔ ∃ x, T[i]? = some x ∧ ecmp x (f, b, 0) = 0) := by
            show _ ↔ _
            refine ⟨(fun g => by cases g), fun ⟨x, g1, _⟩ => ?_⟩
            have := (List.getElem?_eq_some_iff.1 g1).1
            rw [hn.out] at this; omega
          go_wp2
          first | refine wp_region_new (by kernel_rfl) (by kernel_rfl) ?_ | refine wp_region_lex ?_
          repeat (any_goals (first | go_big_quiet_step ((fail)) | (refine wpQuiet_step (fun K hK => ?_); go_simp; split <;> (rename_i hg; refine hK _ ?_; clear hK K; simp only [hg, decide_true, decide_false]))))
          all_goals (refine wpQuiet_nil ?_; intro x)
          go_wp2
          go_ret2
          exact ⟨i, false, rfl, by rw [hn.out]; omega, hb.out, hiff.out, (hF.cl x).kp⟩
theorem placeOf_any (v : Value) (T : List Ent) (f b : Int) (w : World) (hv : Ents w v T) (hT : TOk T) (hr : ROk f b) :
    Calls Try.prog 60 #[v, .agg #[.int .i64 f, .int .i64 b]] w fun e w' => ∃ (k : Nat) (y : Bool), e = .returned (.tuple #[.int .i64 k, .bool y]) ∧ k ≤ T.length ∧ Bs T (f, b, 0) k k ∧ (y = true ↔ ∃ x, T[k]? = some x ∧ ecmp x (f, b, 0) = 0) ∧ Below w.heap.size w w' := by
  have hF := (Fb.start w).alloc [.int .i64 f, .int .i64 b] 27
  have hV := Lib.hid (Rows.alloc hv (.cells #[.int .i64 f, .int .i64 b] 27))
  clear hv
  go_enter Try.func60, Try.ntmps60
  go_wp2_with fail
  refine (search_any _ T f b _ hV.out hT hr).mono ?_; rintro e w1 ⟨k, y, rfl, h1, h2, h3, hb⟩
  replace hF := hF.below hb
  clear hb hV
  go_wp2
  go_ret2
  exact ⟨k, y, rfl, h1, h2, h3, hF.kp⟩
end Go.Proofs.Ytbhenfegklgkoaa
