/- Laws on ranges with a loop over all addresses: FnRangeIn, FnRangeApart. -/
import Derived.Test.YtgajgjhanpnbdaaLa
set_option linter.unusedSimpArgs false
set_option linter.unusedVariables false
namespace Go.Proofs.Ytgajgjhanpnbdaa
open Go.RowKit

/-- Of the addresses below k each that the first range has the second has. -/
def Sub (a b c d : Int) (k : Nat) : Prop := ∀ y : Nat, y < k → RHas a b y → RHas c d y
instance (a b c d : Int) (k : Nat) : Decidable (Sub a b c d k) := by unfold Sub; infer_instance
theorem Sub_zero (a b c d : Int) : Sub a b c d 0 := fun y hy => by omega
theorem Sub_succ (a b c d : Int) (k : Nat) : Sub a b c d (k + 1) ↔ Sub a b c d k ∧ (RHas a b k → RHas c d k) := by
  unfold Sub
  constructor
  · exact fun h => ⟨fun y hy => h y (by omega), h k (by omega)⟩
  · rintro ⟨h1, h2⟩ y hy
    by_cases e : y = k
    · subst e; exact h2
    · exact h1 y (by omega)
theorem has_first {f b : Int} (h : ROk f b) : RHas f b f := ⟨h, ⟨h.2.2.1, h.2.2.2.1⟩, Int.le_refl _, by have := sz_pos b; omega⟩
theorem has_last {f b : Int} (h : ROk f b) : RHas f b (f + sz b - 1) := by
  have h1 := sz_pos b
  have h2 := h.2.2.1
  have e : f + sz b ≤ 256 := by
    have := mul_gap (s := sz b) (x := f) (y := 256) h1 h.2.2.2.2 (by
      obtain ⟨m, hm⟩ := sz_dvd (c := b) (d := 0) h.1
      have : sz 0 = 256 := by decide
      rw [← this, hm]; exact Int.mul_emod_right _ _) (by have := h.2.2.2.1; omega)
    exact this
  exact ⟨h, ⟨by omega, by omega⟩, by omega, by omega⟩
theorem sz_inj {b c : Int} (hb : 0 ≤ b) (hb8 : b ≤ 8) (hc : 0 ≤ c) (hc8 : c ≤ 8) (h : sz b ≤ sz c) : c ≤ b := by
  unfold sz at h
  rcases Int.lt_or_le b c with h1 | h1
  · exfalso
    have e : (8 - b).toNat = (8 - c).toNat + ((8 - b).toNat - (8 - c).toNat - 1) + 1 := by omega
    rw [e, Int.pow_succ, Int.pow_add] at h
    have p1 := Int.pow_pos (n := 2) (m := (8 - c).toNat) (by omega)
    have p2 := Int.pow_pos (n := 2) (m := (8 - b).toNat - (8 - c).toNat - 1) (by omega)
    have p3 := Int.mul_le_mul_of_nonneg_left (show (1 : Int) ≤ 2 ^ ((8 - b).toNat - (8 - c).toNat - 1) by omega) (show (0 : Int) ≤ 2 ^ (8 - c).toNat by omega)
    omega
  · exact h1
theorem rin_sub {f b g c : Int} (h1 : ROk f b) (h2 : ROk g c) : RIn f b g c ↔ Sub f b g c 256 := by
  constructor
  · intro h y hy hh
    have e := rin_end h
    have := hh.2.2
    unfold Cov at this
    exact ⟨h2, hh.2.1, by omega, by omega⟩
  · intro h
    have a1 := has_first h1
    have a2 := has_last h1
    have s1 := sz_pos b
    have u1 := h f.toNat (by have := h1.2.2.2.1; omega) (by rw [Int.toNat_of_nonneg h1.2.2.1]; exact a1)
    have u2 := h (f + sz b - 1).toNat (by have := a2.2.1.2; omega) (by rw [Int.toNat_of_nonneg (by have := a2.2.1.1; omega)]; exact a2)
    rw [Int.toNat_of_nonneg h1.2.2.1] at u1
    rw [Int.toNat_of_nonneg (by have := a2.2.1.1; omega)] at u2
    have c1 := u1.2.2
    have c2 := u2.2.2
    unfold Cov at c1 c2
    exact ⟨h1, h2, sz_inj h1.1 h1.2.1 h2.1 h2.2.1 (by omega), c1⟩
theorem rin_both {f b g c : Int} (h : RIn f b g c) : RIn g c f b ↔ f = g ∧ b = c := by
  constructor
  · intro h'
    have e1 := rin_end h
    have e2 := rin_end h'
    have k1 := h.2.2.1
    have k2 := h'.2.2.1
    omega
  · rintro ⟨rfl, rfl⟩; exact h
theorem rin_all {f b : Int} (h : ROk f b) : RIn f b 0 0 := by
  have : sz 0 = 256 := by decide
  exact ⟨h, by decide, h.1, h.2.2.1, by rw [this]; have := h.2.2.2.1; omega⟩

set_option maxHeartbeats 2000000 in
theorem FnRangeIn_walk (a0 : Option Addr) (n0 c0 : Nat) (w : World) (h0 : Given w (.slice a0 n0 c0)) :
    Calls Try.prog 5 #[.slice a0 n0 c0] w fun e w' => e = .returned (.bool true) ∧ Below w.heap.size w w' := by
  by_cases hn0 : 1048576 < n0
  · have e0 : decide (1048576 < (n0 : Int)) = true := by simp; omega
    go_enter Try.func5, Try.ntmps5
    go_wp2
    go_ret
    exact ⟨rfl, Below.refl _ _⟩
  have e0 : decide (1048576 < (n0 : Int)) = false := by simp; omega
  have hF := Fb.start w
  go_enter Try.func5, Try.ntmps5
  go_wp2_with fail
  refine (drawIn_any _ _ h0).mono ?_; rintro e w1 ⟨a, b, c, d, rfl, sA, sC, hb1⟩
  replace hF := hF.below hb1
  clear sA sC hb1 h0
  by_cases h1 : ROk a b
  · have d1 : decide (ROk a b) = true := by simp [h1]
    by_cases h2 : ROk c d
    · have d2 : decide (ROk c d) = true := by simp [h2]
      go_wp2_with (first | (go_at_call 20; go_must (refine (iRangeIn_any _ _ _ _ _).mono ?_); rintro e wx ⟨rfl, hbx⟩; replace hF := Fb.below (by repeat (first | assumption | apply Fb.alloc_1 | apply Fb.alloc_2 | apply Fb.alloc_3 | apply Fb.alloc_4 | apply Fb.alloc_5 | apply Fb.alloc_8 | apply Fb.drew | apply Fb.drewN)) hbx; clear hbx; (try clear o); have o := hF.own; simp only [World.size_alloc, World.size_drew, World.size_setCell, List.mem_cons, List.not_mem_nil, or_false, forall_eq_or_imp, forall_eq, At, and_true, Nat.zero_add, Nat.reduceAdd, List.set_cons_zero, List.set_cons_succ] at o) | (go_at_call 22; go_must (refine (sRangeIn_any _ _ _ _ _).mono ?_); rintro e wx ⟨rfl, hbx⟩; replace hF := Fb.below (by repeat (first | assumption | apply Fb.alloc_1 | apply Fb.alloc_2 | apply Fb.alloc_3 | apply Fb.alloc_4 | apply Fb.alloc_5 | apply Fb.alloc_8 | apply Fb.drew | apply Fb.drewN)) hbx; clear hbx; (try clear o); have o := hF.own; simp only [World.size_alloc, World.size_drew, World.size_setCell, List.mem_cons, List.not_mem_nil, or_false, forall_eq_or_imp, forall_eq, At, and_true, Nat.zero_add, Nat.reduceAdd, List.set_cons_zero, List.set_cons_succ] at o) | (go_at_call 18; go_must (refine (sRangeOk_any _ _ _).mono ?_); rintro e wx ⟨rfl, hbx⟩; replace hF := Fb.below (by repeat (first | assumption | apply Fb.alloc_1 | apply Fb.alloc_2 | apply Fb.alloc_3 | apply Fb.alloc_4 | apply Fb.alloc_5 | apply Fb.alloc_8 | apply Fb.drew | apply Fb.drewN)) hbx; clear hbx; (try clear o); have o := hF.own; simp only [World.size_alloc, World.size_drew, World.size_setCell, List.mem_cons, List.not_mem_nil, or_false, forall_eq_or_imp, forall_eq, At, and_true, Nat.zero_add, Nat.reduceAdd, List.set_cons_zero, List.set_cons_succ] at o))
      obtain ⟨w5, hw5⟩ : ∃ w5 : World, w5 = wx := ⟨_, rfl⟩
      go_loopw [6, 7] (fun can x wr => ∃ k : Nat, k ≤ 256 ∧ x = .int .i64 k ∧ can = .bool (decide (Sub a b c d k)) ∧ Fb w wr [(w1.heap.size + 1, [.int .i64 c, .int .i64 d]), (w1.heap.size, [.int .i64 a, .int .i64 b])]) (fun _ x _ => 256 - (intOf x).toNat)
      case atStart => exact ⟨0, by omega, rfl, by simp [Sub_zero], by simpa using hF⟩
      case round =>
        clear hF o
        obtain ⟨k, hk, rfl, rfl, hF⟩ := hrel
        have hS := Sub_succ a b c d k
        have HS := Lib.hid hS; clear hS
        have o := hF.own; simp only [World.size_alloc, World.size_drew, World.size_setCell, List.mem_cons, List.not_mem_nil, or_false, forall_eq_or_imp, forall_eq, At, and_true, Nat.zero_add, Nat.reduceAdd, List.set_cons_zero, List.set_cons_succ] at o
        by_cases hlt : k < 256
        · have hle : (k : Int) ≤ 255 := by omega
          have hR : decide (Sub a b c d k) = true ∨ decide (Sub a b c d k) = false := by cases decide (Sub a b c d k) <;> simp
          rcases hR with hs | hs
          · by_cases hA : RHas a b k
            · have hA' : decide (RHas a b k) = true := by simp [hA]
              by_cases hB : RHas c d k
              · have hB' : decide (RHas c d k) = true := by simp [hB]
                have hs' : decide (Sub a b c d (k + 1)) = true := by simp [HS.out, hB]; simpa using hs
                go_wp2_with (first | (go_at_call 19; go_must (refine (iRangeHas_any _ _ _ _).mono ?_); rintro e wx ⟨rfl, hbx⟩; replace hF := Fb.below (by repeat (first | assumption | apply Fb.alloc_1 | apply Fb.alloc_2 | apply Fb.alloc_3 | apply Fb.alloc_4 | apply Fb.alloc_5 | apply Fb.alloc_8 | apply Fb.drew | apply Fb.drewN)) hbx; clear hbx; (try clear o); have o := hF.own; simp only [World.size_alloc, World.size_drew, World.size_setCell, List.mem_cons, List.not_mem_nil, or_false, forall_eq_or_imp, forall_eq, At, and_true, Nat.zero_add, Nat.reduceAdd, List.set_cons_zero, List.set_cons_succ] at o))
                go_roundw
                case rel => exact ⟨k + 1, by omega, by go_num, by rw [hs'], hF⟩
                case measure => simp [intOf]; omega
              · have hB' : decide (RHas c d k) = false := by simp [hB]
                have hs' : decide (Sub a b c d (k + 1)) = false := by simp [HS.out, hA, hB]
                go_wp2_with (first | (go_at_call 19; go_must (refine (iRangeHas_any _ _ _ _).mono ?_); rintro e wx ⟨rfl, hbx⟩; replace hF := Fb.below (by repeat (first | assumption | apply Fb.alloc_1 | apply Fb.alloc_2 | apply Fb.alloc_3 | apply Fb.alloc_4 | apply Fb.alloc_5 | apply Fb.alloc_8 | apply Fb.drew | apply Fb.drewN)) hbx; clear hbx; (try clear o); have o := hF.own; simp only [World.size_alloc, World.size_drew, World.size_setCell, List.mem_cons, List.not_mem_nil, or_false, forall_eq_or_imp, forall_eq, At, and_true, Nat.zero_add, Nat.reduceAdd, List.set_cons_zero, List.set_cons_succ] at o))
                go_roundw
                case rel => exact ⟨k + 1, by omega, by go_num, by rw [hs'], hF⟩
                case measure => simp [intOf]; omega
            · have hA' : decide (RHas a b k) = false := by simp [hA]
              have hs' : decide (Sub a b c d (k + 1)) = true := by simp [HS.out, hA]; simpa using hs
              go_wp2_with (first | (go_at_call 19; go_must (refine (iRangeHas_any _ _ _ _).mono ?_); rintro e wx ⟨rfl, hbx⟩; replace hF := Fb.below (by repeat (first | assumption | apply Fb.alloc_1 | apply Fb.alloc_2 | apply Fb.alloc_3 | apply Fb.alloc_4 | apply Fb.alloc_5 | apply Fb.alloc_8 | apply Fb.drew | apply Fb.drewN)) hbx; clear hbx; (try clear o); have o := hF.own; simp only [World.size_alloc, World.size_drew, World.size_setCell, List.mem_cons, List.not_mem_nil, or_false, forall_eq_or_imp, forall_eq, At, and_true, Nat.zero_add, Nat.reduceAdd, List.set_cons_zero, List.set_cons_succ] at o))
              go_roundw
              case rel => exact ⟨k + 1, by omega, by go_num, by rw [hs'], hF⟩
              case measure => simp [intOf]; omega
          · have hs' : decide (Sub a b c d (k + 1)) = false := by
              have : ¬ Sub a b c d k := by simpa using hs
              simp [HS.out, this]
            go_wp2_with (first | (go_at_call 19; go_must (refine (iRangeHas_any _ _ _ _).mono ?_); rintro e wx ⟨rfl, hbx⟩; replace hF := Fb.below (by repeat (first | assumption | apply Fb.alloc_1 | apply Fb.alloc_2 | apply Fb.alloc_3 | apply Fb.alloc_4 | apply Fb.alloc_5 | apply Fb.alloc_8 | apply Fb.drew | apply Fb.drewN)) hbx; clear hbx; (try clear o); have o := hF.own; simp only [World.size_alloc, World.size_drew, World.size_setCell, List.mem_cons, List.not_mem_nil, or_false, forall_eq_or_imp, forall_eq, At, and_true, Nat.zero_add, Nat.reduceAdd, List.set_cons_zero, List.set_cons_succ] at o))
            go_roundw
            case rel => exact ⟨k + 1, by omega, by go_num, by rw [hs'], hF⟩
            case measure => simp [intOf]; omega
        · obtain rfl : k = 256 := by omega
          have hgt : ¬ ((256 : Nat) : Int) ≤ 255 := by omega
          have q1 := rin_sub h1 h2
          have q3 : decide (RIn a b 0 0) = true := by simp [rin_all h1]
          have q4 := fun h : RIn a b c d => rin_both h
          by_cases hin : RIn a b c d
          · have d3 : decide (RIn a b c d) = true := by simp [hin]
            have d4 : decide (Sub a b c d 256) = true := by simp [← q1, hin]
            by_cases hin2 : RIn c d a b
            · have d5 : decide (RIn c d a b) = true := by simp [hin2]
              obtain ⟨rfl, rfl⟩ := (q4 hin).1 hin2
              clear q1 q4 HS
              have oc := fun x : Cl _ wr => (Fb.cl hF x).own; simp only [World.size_alloc, World.size_drew, World.size_setCell, List.mem_cons, List.not_mem_nil, or_false, forall_eq_or_imp, forall_eq, At, and_true, Nat.zero_add, Nat.reduceAdd, List.set_cons_zero, List.set_cons_succ] at oc
              go_upto_region 12 with (fail)
              simp only [d3, d4]
              first | refine wp_region_new (by kernel_rfl) (by kernel_rfl) ?_ | refine wp_region_lex ?_
              repeat (any_goals (first | go_big_quiet_step ((first | (go_at_call 20; exact Calls.cl (iRangeIn_any _ _ _ _ _)))) | (refine wpQuiet_step (fun K hK => ?_); go_simp; split <;> (rename_i hg; refine hK _ ?_; clear hK K; simp only [hg, decide_true, decide_false]))))
              all_goals (refine wpQuiet_nil ?_; intro x)
              all_goals go_wp2
              all_goals (go_ret; exact ⟨rfl, (Fb.cl hF x).kp⟩)
            · have d5 : decide (RIn c d a b) = false := by simp [hin2]
              have hne : ¬ (a = c ∧ b = d) := fun e => hin2 ((q4 hin).2 e)
              clear q1 q4 HS
              have oc := fun x : Cl _ wr => (Fb.cl hF x).own; simp only [World.size_alloc, World.size_drew, World.size_setCell, List.mem_cons, List.not_mem_nil, or_false, forall_eq_or_imp, forall_eq, At, and_true, Nat.zero_add, Nat.reduceAdd, List.set_cons_zero, List.set_cons_succ] at oc
              go_upto_region 12 with (fail)
              simp only [d3, d4]
              by_cases e1 : a = c
              · subst e1
                have e2 : (b == d) = false := by simpa using hne
                first | refine wp_region_new (by kernel_rfl) (by kernel_rfl) ?_ | refine wp_region_lex ?_
                repeat (any_goals (first | go_big_quiet_step ((first | (go_at_call 20; exact Calls.cl (iRangeIn_any _ _ _ _ _)))) | (refine wpQuiet_step (fun K hK => ?_); go_simp; split <;> (rename_i hg; refine hK _ ?_; clear hK K; simp only [hg, decide_true, decide_false]))))
                all_goals (refine wpQuiet_nil ?_; intro x)
                all_goals go_wp2
                all_goals (go_ret; exact ⟨rfl, (Fb.cl hF x).kp⟩)
              · have e2 : (a == c) = false := by simpa using e1
                first | refine wp_region_new (by kernel_rfl) (by kernel_rfl) ?_ | refine wp_region_lex ?_
                repeat (any_goals (first | go_big_quiet_step ((first | (go_at_call 20; exact Calls.cl (iRangeIn_any _ _ _ _ _)))) | (refine wpQuiet_step (fun K hK => ?_); go_simp; split <;> (rename_i hg; refine hK _ ?_; clear hK K; simp only [hg, decide_true, decide_false]))))
                all_goals (refine wpQuiet_nil ?_; intro x)
                all_goals go_wp2
                all_goals (go_ret; exact ⟨rfl, (Fb.cl hF x).kp⟩)
          · have d3 : decide (RIn a b c d) = false := by simp [hin]
            have d4 : decide (Sub a b c d 256) = false := by simp [← q1, hin]
            have hne : ¬ (a = c ∧ b = d) := by
              rintro ⟨rfl, rfl⟩
              exact hin ⟨h1, h1, Int.le_refl _, Int.le_refl _, by have := sz_pos b; omega⟩
            clear q1 q4 HS
            have oc := fun x : Cl _ wr => (Fb.cl hF x).own; simp only [World.size_alloc, World.size_drew, World.size_setCell, List.mem_cons, List.not_mem_nil, or_false, forall_eq_or_imp, forall_eq, At, and_true, Nat.zero_add, Nat.reduceAdd, List.set_cons_zero, List.set_cons_succ] at oc
            go_upto_region 12 with (fail)
            simp only [d3, d4]
            by_cases e1 : a = c
            · subst e1
              have e2 : (b == d) = false := by simpa using hne
              first | refine wp_region_new (by kernel_rfl) (by kernel_rfl) ?_ | refine wp_region_lex ?_
              repeat (any_goals (first | go_big_quiet_step ((first | (go_at_call 20; exact Calls.cl (iRangeIn_any _ _ _ _ _)))) | (refine wpQuiet_step (fun K hK => ?_); go_simp; split <;> (rename_i hg; refine hK _ ?_; clear hK K; simp only [hg, decide_true, decide_false]))))
              all_goals (refine wpQuiet_nil ?_; intro x)
              all_goals go_wp2
              all_goals (go_ret; exact ⟨rfl, (Fb.cl hF x).kp⟩)
            · have e2 : (a == c) = false := by simpa using e1
              first | refine wp_region_new (by kernel_rfl) (by kernel_rfl) ?_ | refine wp_region_lex ?_
              repeat (any_goals (first | go_big_quiet_step ((first | (go_at_call 20; exact Calls.cl (iRangeIn_any _ _ _ _ _)))) | (refine wpQuiet_step (fun K hK => ?_); go_simp; split <;> (rename_i hg; refine hK _ ?_; clear hK K; simp only [hg, decide_true, decide_false]))))
              all_goals (refine wpQuiet_nil ?_; intro x)
              all_goals go_wp2
              all_goals (go_ret; exact ⟨rfl, (Fb.cl hF x).kp⟩)
    · have d2 : decide (ROk c d) = false := by simp [h2]
      go_wp2_with (first | (go_at_call 20; go_must (refine (iRangeIn_any _ _ _ _ _).mono ?_); rintro e wx ⟨rfl, hbx⟩; replace hF := Fb.below (by repeat (first | assumption | apply Fb.alloc_1 | apply Fb.alloc_2 | apply Fb.alloc_3 | apply Fb.alloc_4 | apply Fb.alloc_5 | apply Fb.alloc_8 | apply Fb.drew | apply Fb.drewN)) hbx; clear hbx; (try clear o); have o := hF.own; simp only [World.size_alloc, World.size_drew, World.size_setCell, List.mem_cons, List.not_mem_nil, or_false, forall_eq_or_imp, forall_eq, At, and_true, Nat.zero_add, Nat.reduceAdd, List.set_cons_zero, List.set_cons_succ] at o) | (go_at_call 22; go_must (refine (sRangeIn_any _ _ _ _ _).mono ?_); rintro e wx ⟨rfl, hbx⟩; replace hF := Fb.below (by repeat (first | assumption | apply Fb.alloc_1 | apply Fb.alloc_2 | apply Fb.alloc_3 | apply Fb.alloc_4 | apply Fb.alloc_5 | apply Fb.alloc_8 | apply Fb.drew | apply Fb.drewN)) hbx; clear hbx; (try clear o); have o := hF.own; simp only [World.size_alloc, World.size_drew, World.size_setCell, List.mem_cons, List.not_mem_nil, or_false, forall_eq_or_imp, forall_eq, At, and_true, Nat.zero_add, Nat.reduceAdd, List.set_cons_zero, List.set_cons_succ] at o) | (go_at_call 18; go_must (refine (sRangeOk_any _ _ _).mono ?_); rintro e wx ⟨rfl, hbx⟩; replace hF := Fb.below (by repeat (first | assumption | apply Fb.alloc_1 | apply Fb.alloc_2 | apply Fb.alloc_3 | apply Fb.alloc_4 | apply Fb.alloc_5 | apply Fb.alloc_8 | apply Fb.drew | apply Fb.drewN)) hbx; clear hbx; (try clear o); have o := hF.own; simp only [World.size_alloc, World.size_drew, World.size_setCell, List.mem_cons, List.not_mem_nil, or_false, forall_eq_or_imp, forall_eq, At, and_true, Nat.zero_add, Nat.reduceAdd, List.set_cons_zero, List.set_cons_succ] at o))
      (go_ret; exact ⟨rfl, Fb.kp (by repeat (first | assumption | apply Fb.alloc_1 | apply Fb.alloc_2 | apply Fb.alloc_3 | apply Fb.alloc_4 | apply Fb.alloc_5 | apply Fb.alloc_8 | apply Fb.drew | apply Fb.drewN))⟩)
  · have d1 : decide (ROk a b) = false := by simp [h1]
    go_wp2_with (first | (go_at_call 20; go_must (refine (iRangeIn_any _ _ _ _ _).mono ?_); rintro e wx ⟨rfl, hbx⟩; replace hF := Fb.below (by repeat (first | assumption | apply Fb.alloc_1 | apply Fb.alloc_2 | apply Fb.alloc_3 | apply Fb.alloc_4 | apply Fb.alloc_5 | apply Fb.alloc_8 | apply Fb.drew | apply Fb.drewN)) hbx; clear hbx; (try clear o); have o := hF.own; simp only [World.size_alloc, World.size_drew, World.size_setCell, List.mem_cons, List.not_mem_nil, or_false, forall_eq_or_imp, forall_eq, At, and_true, Nat.zero_add, Nat.reduceAdd, List.set_cons_zero, List.set_cons_succ] at o) | (go_at_call 22; go_must (refine (sRangeIn_any _ _ _ _ _).mono ?_); rintro e wx ⟨rfl, hbx⟩; replace hF := Fb.below (by repeat (first | assumption | apply Fb.alloc_1 | apply Fb.alloc_2 | apply Fb.alloc_3 | apply Fb.alloc_4 | apply Fb.alloc_5 | apply Fb.alloc_8 | apply Fb.drew | apply Fb.drewN)) hbx; clear hbx; (try clear o); have o := hF.own; simp only [World.size_alloc, World.size_drew, World.size_setCell, List.mem_cons, List.not_mem_nil, or_false, forall_eq_or_imp, forall_eq, At, and_true, Nat.zero_add, Nat.reduceAdd, List.set_cons_zero, List.set_cons_succ] at o) | (go_at_call 18; go_must (refine (sRangeOk_any _ _ _).mono ?_); rintro e wx ⟨rfl, hbx⟩; replace hF := Fb.below (by repeat (first | assumption | apply Fb.alloc_1 | apply Fb.alloc_2 | apply Fb.alloc_3 | apply Fb.alloc_4 | apply Fb.alloc_5 | apply Fb.alloc_8 | apply Fb.drew | apply Fb.drewN)) hbx; clear hbx; (try clear o); have o := hF.own; simp only [World.size_alloc, World.size_drew, World.size_setCell, List.mem_cons, List.not_mem_nil, or_false, forall_eq_or_imp, forall_eq, At, and_true, Nat.zero_add, Nat.reduceAdd, List.set_cons_zero, List.set_cons_succ] at o))
    (go_ret; exact ⟨rfl, Fb.kp (by repeat (first | assumption | apply Fb.alloc_1 | apply Fb.alloc_2 | apply Fb.alloc_3 | apply Fb.alloc_4 | apply Fb.alloc_5 | apply Fb.alloc_8 | apply Fb.drew | apply Fb.drewN))⟩)

/-- Some address below k lies in both. -/
def Both (a b c d : Int) (k : Nat) : Prop := ∃ y : Nat, y < k ∧ RHas a b y ∧ RHas c d y
theorem Both_zero (a b c d : Int) : ¬ Both a b c d 0 := fun ⟨y, hy, _⟩ => by omega
theorem Both_succ (a b c d : Int) (k : Nat) : Both a b c d (k + 1) ↔ Both a b c d k ∨ (RHas a b k ∧ RHas c d k) := by
  constructor
  · rintro ⟨y, hy, h⟩
    by_cases e : y = k
    · subst e; exact Or.inr h
    · exact Or.inl ⟨y, by omega, h⟩
  · rintro (⟨y, hy, h⟩ | h)
    · exact ⟨y, by omega, h⟩
    · exact ⟨k, by omega, h⟩
instance Both_dec (a b c d : Int) : (k : Nat) → Decidable (Both a b c d k)
  | 0 => isFalse (Both_zero a b c d)
  | k + 1 => match Both_dec a b c d k with
    | isTrue h => isTrue ((Both_succ a b c d k).2 (Or.inl h))
    | isFalse h => if h' : RHas a b k ∧ RHas c d k then isTrue ((Both_succ a b c d k).2 (Or.inr h')) else isFalse (fun e => ((Both_succ a b c d k).1 e).elim h h')
theorem both_one {f b g c y : Int} (h1 : RHas f b y) (h2 : RHas g c y) (h : c ≤ b) : RIn f b g c := by
  obtain ⟨k1, k2⟩ := h1.2.2
  obtain ⟨k3, k4⟩ := h2.2.2
  refine ⟨h1.1, h2.1, h, ?_, by omega⟩
  rcases Int.lt_or_le f g with hlt | hle
  · exfalso
    obtain ⟨m, hm⟩ := sz_dvd h
    have hg := h2.1.2.2.2.2
    rw [hm] at hg
    have hg' : g % sz b = 0 := Int.emod_eq_zero_of_dvd (Int.dvd_trans ⟨m, rfl⟩ (Int.dvd_of_emod_eq_zero hg))
    have := mul_gap (sz_pos b) h1.1.2.2.2.2 hg' hlt
    omega
  · exact hle
theorem both_iff {f b g c : Int} (h1 : ROk f b) (h2 : ROk g c) : Both f b g c 256 ↔ RIn f b g c ∨ RIn g c f b := by
  constructor
  · rintro ⟨y, hy, a1, a2⟩
    rcases Int.le_total c b with h | h
    · exact Or.inl (both_one a1 a2 h)
    · exact Or.inr (both_one a2 a1 h)
  · rintro (h | h)
    · have e := has_first h1
      have k := (rin_sub h1 h2).1 h f.toNat (by have := h1.2.2.2.1; omega) (by rw [Int.toNat_of_nonneg h1.2.2.1]; exact e)
      exact ⟨f.toNat, by have := h1.2.2.2.1; omega, by rw [Int.toNat_of_nonneg h1.2.2.1]; exact e, k⟩
    · have e := has_first h2
      have k := (rin_sub h2 h1).1 h g.toNat (by have := h2.2.2.2.1; omega) (by rw [Int.toNat_of_nonneg h2.2.2.1]; exact e)
      exact ⟨g.toNat, by have := h2.2.2.2.1; omega, k, by rw [Int.toNat_of_nonneg h2.2.2.1]; exact e⟩

set_option maxHeartbeats 2000000 in
theorem FnRangeApart_walk (a0 : Option Addr) (n0 c0 : Nat) (w : World) (h0 : Given w (.slice a0 n0 c0)) :
    Calls Try.prog 4 #[.slice a0 n0 c0] w fun e w' => e = .returned (.bool true) ∧ Below w.heap.size w w' := by
  by_cases hn0 : 1048576 < n0
  · have e0 : decide (1048576 < (n0 : Int)) = true := by simp; omega
    go_enter Try.func4, Try.ntmps4
    go_wp2
    go_ret
    exact ⟨rfl, Below.refl _ _⟩
  have e0 : decide (1048576 < (n0 : Int)) = false := by simp; omega
  have hF := Fb.start w
  go_enter Try.func4, Try.ntmps4
  go_wp2_with fail
  refine (drawIn_any _ _ h0).mono ?_; rintro e w1 ⟨a, b, c, d, rfl, sA, sC, hb1⟩
  replace hF := hF.below hb1
  clear sA sC hb1 h0
  by_cases h1 : ROk a b
  · have d1 : decide (ROk a b) = true := by simp [h1]
    by_cases h2 : ROk c d
    · have d2 : decide (ROk c d) = true := by simp [h2]
      go_wp2_with (first | (go_at_call 20; go_must (refine (iRangeIn_any _ _ _ _ _).mono ?_); rintro e wx ⟨rfl, hbx⟩; replace hF := Fb.below (by repeat (first | assumption | apply Fb.alloc_1 | apply Fb.alloc_2 | apply Fb.alloc_3 | apply Fb.alloc_4 | apply Fb.alloc_5 | apply Fb.alloc_8 | apply Fb.drew | apply Fb.drewN)) hbx; clear hbx; (try clear o); have o := hF.own; simp only [World.size_alloc, World.size_drew, World.size_setCell, List.mem_cons, List.not_mem_nil, or_false, forall_eq_or_imp, forall_eq, At, and_true, Nat.zero_add, Nat.reduceAdd, List.set_cons_zero, List.set_cons_succ] at o) | (go_at_call 22; go_must (refine (sRangeIn_any _ _ _ _ _).mono ?_); rintro e wx ⟨rfl, hbx⟩; replace hF := Fb.below (by repeat (first | assumption | apply Fb.alloc_1 | apply Fb.alloc_2 | apply Fb.alloc_3 | apply Fb.alloc_4 | apply Fb.alloc_5 | apply Fb.alloc_8 | apply Fb.drew | apply Fb.drewN)) hbx; clear hbx; (try clear o); have o := hF.own; simp only [World.size_alloc, World.size_drew, World.size_setCell, List.mem_cons, List.not_mem_nil, or_false, forall_eq_or_imp, forall_eq, At, and_true, Nat.zero_add, Nat.reduceAdd, List.set_cons_zero, List.set_cons_succ] at o) | (go_at_call 18; go_must (refine (sRangeOk_any _ _ _).mono ?_); rintro e wx ⟨rfl, hbx⟩; replace hF := Fb.below (by repeat (first | assumption | apply Fb.alloc_1 | apply Fb.alloc_2 | apply Fb.alloc_3 | apply Fb.alloc_4 | apply Fb.alloc_5 | apply Fb.alloc_8 | apply Fb.drew | apply Fb.drewN)) hbx; clear hbx; (try clear o); have o := hF.own; simp only [World.size_alloc, World.size_drew, World.size_setCell, List.mem_cons, List.not_mem_nil, or_false, forall_eq_or_imp, forall_eq, At, and_true, Nat.zero_add, Nat.reduceAdd, List.set_cons_zero, List.set_cons_succ] at o))
      go_loopw [6, 7] (fun can x wr => ∃ k : Nat, k ≤ 256 ∧ x = .int .i64 k ∧ can = .bool (decide (Both a b c d k)) ∧ Fb w wr [(w1.heap.size + 1, [.int .i64 c, .int .i64 d]), (w1.heap.size, [.int .i64 a, .int .i64 b])]) (fun _ x _ => 256 - (intOf x).toNat)
      case atStart => exact ⟨0, by omega, rfl, by simp [Both_zero], by simpa using hF⟩
      case round =>
        clear hF o
        obtain ⟨k, hk, rfl, rfl, hF⟩ := hrel
        have hS := Both_succ a b c d k
        have HS := Lib.hid hS; clear hS
        have o := hF.own; simp only [World.size_alloc, World.size_drew, World.size_setCell, List.mem_cons, List.not_mem_nil, or_false, forall_eq_or_imp, forall_eq, At, and_true, Nat.zero_add, Nat.reduceAdd, List.set_cons_zero, List.set_cons_succ] at o
        by_cases hlt : k < 256
        · have hle : (k : Int) ≤ 255 := by omega
          have hR : decide (Both a b c d k) = true ∨ decide (Both a b c d k) = false := by cases decide (Both a b c d k) <;> simp
          rcases hR with hs | hs
          · have hs' : decide (Both a b c d (k + 1)) = true := by
              have : Both a b c d k := by simpa using hs
              simp [HS.out, this]
            go_wp2_with (first | (go_at_call 19; go_must (refine (iRangeHas_any _ _ _ _).mono ?_); rintro e wx ⟨rfl, hbx⟩; replace hF := Fb.below (by repeat (first | assumption | apply Fb.alloc_1 | apply Fb.alloc_2 | apply Fb.alloc_3 | apply Fb.alloc_4 | apply Fb.alloc_5 | apply Fb.alloc_8 | apply Fb.drew | apply Fb.drewN)) hbx; clear hbx; (try clear o); have o := hF.own; simp only [World.size_alloc, World.size_drew, World.size_setCell, List.mem_cons, List.not_mem_nil, or_false, forall_eq_or_imp, forall_eq, At, and_true, Nat.zero_add, Nat.reduceAdd, List.set_cons_zero, List.set_cons_succ] at o))
            go_roundw
            case rel => exact ⟨k + 1, by omega, by go_num, by rw [hs'], hF⟩
            case measure => simp [intOf]; omega
          · have hn : ¬ Both a b c d k := by simpa using hs
            have HN := Lib.hid hn; clear hn
            by_cases hA : RHas a b k
            · have hA' : decide (RHas a b k) = true := by simp [hA]
              by_cases hB : RHas c d k
              · have hB' : decide (RHas c d k) = true := by simp [hB]
                have hs' : decide (Both a b c d (k + 1)) = true := by simp [HS.out, hA, hB]
                go_wp2_with (first | (go_at_call 19; go_must (refine (iRangeHas_any _ _ _ _).mono ?_); rintro e wx ⟨rfl, hbx⟩; replace hF := Fb.below (by repeat (first | assumption | apply Fb.alloc_1 | apply Fb.alloc_2 | apply Fb.alloc_3 | apply Fb.alloc_4 | apply Fb.alloc_5 | apply Fb.alloc_8 | apply Fb.drew | apply Fb.drewN)) hbx; clear hbx; (try clear o); have o := hF.own; simp only [World.size_alloc, World.size_drew, World.size_setCell, List.mem_cons, List.not_mem_nil, or_false, forall_eq_or_imp, forall_eq, At, and_true, Nat.zero_add, Nat.reduceAdd, List.set_cons_zero, List.set_cons_succ] at o))
                go_roundw
                case rel => exact ⟨k + 1, by omega, by go_num, by rw [hs'], hF⟩
                case measure => simp [intOf]; omega
              · have hB' : decide (RHas c d k) = false := by simp [hB]
                have hs' : decide (Both a b c d (k + 1)) = false := by simp [HS.out, hB, HN.out]
                go_wp2_with (first | (go_at_call 19; go_must (refine (iRangeHas_any _ _ _ _).mono ?_); rintro e wx ⟨rfl, hbx⟩; replace hF := Fb.below (by repeat (first | assumption | apply Fb.alloc_1 | apply Fb.alloc_2 | apply Fb.alloc_3 | apply Fb.alloc_4 | apply Fb.alloc_5 | apply Fb.alloc_8 | apply Fb.drew | apply Fb.drewN)) hbx; clear hbx; (try clear o); have o := hF.own; simp only [World.size_alloc, World.size_drew, World.size_setCell, List.mem_cons, List.not_mem_nil, or_false, forall_eq_or_imp, forall_eq, At, and_true, Nat.zero_add, Nat.reduceAdd, List.set_cons_zero, List.set_cons_succ] at o))
                go_roundw
                case rel => exact ⟨k + 1, by omega, by go_num, by rw [hs'], hF⟩
                case measure => simp [intOf]; omega
            · have hA' : decide (RHas a b k) = false := by simp [hA]
              have hs' : decide (Both a b c d (k + 1)) = false := by simp [HS.out, hA, HN.out]
              go_wp2_with (first | (go_at_call 19; go_must (refine (iRangeHas_any _ _ _ _).mono ?_); rintro e wx ⟨rfl, hbx⟩; replace hF := Fb.below (by repeat (first | assumption | apply Fb.alloc_1 | apply Fb.alloc_2 | apply Fb.alloc_3 | apply Fb.alloc_4 | apply Fb.alloc_5 | apply Fb.alloc_8 | apply Fb.drew | apply Fb.drewN)) hbx; clear hbx; (try clear o); have o := hF.own; simp only [World.size_alloc, World.size_drew, World.size_setCell, List.mem_cons, List.not_mem_nil, or_false, forall_eq_or_imp, forall_eq, At, and_true, Nat.zero_add, Nat.reduceAdd, List.set_cons_zero, List.set_cons_succ] at o))
              go_roundw
              case rel => exact ⟨k + 1, by omega, by go_num, by rw [hs'], hF⟩
              case measure => simp [intOf]; omega
        · obtain rfl : k = 256 := by omega
          have hgt : ¬ ((256 : Nat) : Int) ≤ 255 := by omega
          have q1 := both_iff h1 h2
          by_cases hin : RIn a b c d
          · have d3 : decide (RIn a b c d) = true := by simp [hin]
            have d4 : decide (Both a b c d 256) = true := by simp [q1, hin]
            clear q1 HS
            simp only [d3, d4]
            go_wp2_with (first | (go_at_call 20; go_must (refine (iRangeIn_any _ _ _ _ _).mono ?_); rintro e wx ⟨rfl, hbx⟩; replace hF := Fb.below (by repeat (first | assumption | apply Fb.alloc_1 | apply Fb.alloc_2 | apply Fb.alloc_3 | apply Fb.alloc_4 | apply Fb.alloc_5 | apply Fb.alloc_8 | apply Fb.drew | apply Fb.drewN)) hbx; clear hbx; (try clear o); have o := hF.own; simp only [World.size_alloc, World.size_drew, World.size_setCell, List.mem_cons, List.not_mem_nil, or_false, forall_eq_or_imp, forall_eq, At, and_true, Nat.zero_add, Nat.reduceAdd, List.set_cons_zero, List.set_cons_succ] at o))
            (go_ret; exact ⟨rfl, Fb.kp (by repeat (first | assumption | apply Fb.alloc_1 | apply Fb.alloc_2 | apply Fb.alloc_3 | apply Fb.alloc_4 | apply Fb.alloc_5 | apply Fb.alloc_8 | apply Fb.drew | apply Fb.drewN))⟩)
          · have d3 : decide (RIn a b c d) = false := by simp [hin]
            by_cases hin2 : RIn c d a b
            · have d5 : decide (RIn c d a b) = true := by simp [hin2]
              have d4 : decide (Both a b c d 256) = true := by simp [q1, hin2]
              clear q1 HS
              simp only [d3, d4]
              go_wp2_with (first | (go_at_call 20; go_must (refine (iRangeIn_any _ _ _ _ _).mono ?_); rintro e wx ⟨rfl, hbx⟩; replace hF := Fb.below (by repeat (first | assumption | apply Fb.alloc_1 | apply Fb.alloc_2 | apply Fb.alloc_3 | apply Fb.alloc_4 | apply Fb.alloc_5 | apply Fb.alloc_8 | apply Fb.drew | apply Fb.drewN)) hbx; clear hbx; (try clear o); have o := hF.own; simp only [World.size_alloc, World.size_drew, World.size_setCell, List.mem_cons, List.not_mem_nil, or_false, forall_eq_or_imp, forall_eq, At, and_true, Nat.zero_add, Nat.reduceAdd, List.set_cons_zero, List.set_cons_succ] at o))
              (go_ret; exact ⟨rfl, Fb.kp (by repeat (first | assumption | apply Fb.alloc_1 | apply Fb.alloc_2 | apply Fb.alloc_3 | apply Fb.alloc_4 | apply Fb.alloc_5 | apply Fb.alloc_8 | apply Fb.drew | apply Fb.drewN))⟩)
            · have d5 : decide (RIn c d a b) = false := by simp [hin2]
              have d4 : decide (Both a b c d 256) = false := by simp [q1, hin, hin2]
              clear q1 HS
              simp only [d3, d4]
              go_wp2_with (first | (go_at_call 20; go_must (refine (iRangeIn_any _ _ _ _ _).mono ?_); rintro e wx ⟨rfl, hbx⟩; replace hF := Fb.below (by repeat (first | assumption | apply Fb.alloc_1 | apply Fb.alloc_2 | apply Fb.alloc_3 | apply Fb.alloc_4 | apply Fb.alloc_5 | apply Fb.alloc_8 | apply Fb.drew | apply Fb.drewN)) hbx; clear hbx; (try clear o); have o := hF.own; simp only [World.size_alloc, World.size_drew, World.size_setCell, List.mem_cons, List.not_mem_nil, or_false, forall_eq_or_imp, forall_eq, At, and_true, Nat.zero_add, Nat.reduceAdd, List.set_cons_zero, List.set_cons_succ] at o))
              (go_ret; exact ⟨rfl, Fb.kp (by repeat (first | assumption | apply Fb.alloc_1 | apply Fb.alloc_2 | apply Fb.alloc_3 | apply Fb.alloc_4 | apply Fb.alloc_5 | apply Fb.alloc_8 | apply Fb.drew | apply Fb.drewN))⟩)
    · have d2 : decide (ROk c d) = false := by simp [h2]
      go_wp2_with (first | (go_at_call 20; go_must (refine (iRangeIn_any _ _ _ _ _).mono ?_); rintro e wx ⟨rfl, hbx⟩; replace hF := Fb.below (by repeat (first | assumption | apply Fb.alloc_1 | apply Fb.alloc_2 | apply Fb.alloc_3 | apply Fb.alloc_4 | apply Fb.alloc_5 | apply Fb.alloc_8 | apply Fb.drew | apply Fb.drewN)) hbx; clear hbx; (try clear o); have o := hF.own; simp only [World.size_alloc, World.size_drew, World.size_setCell, List.mem_cons, List.not_mem_nil, or_false, forall_eq_or_imp, forall_eq, At, and_true, Nat.zero_add, Nat.reduceAdd, List.set_cons_zero, List.set_cons_succ] at o) | (go_at_call 22; go_must (refine (sRangeIn_any _ _ _ _ _).mono ?_); rintro e wx ⟨rfl, hbx⟩; replace hF := Fb.below (by repeat (first | assumption | apply Fb.alloc_1 | apply Fb.alloc_2 | apply Fb.alloc_3 | apply Fb.alloc_4 | apply Fb.alloc_5 | apply Fb.alloc_8 | apply Fb.drew | apply Fb.drewN)) hbx; clear hbx; (try clear o); have o := hF.own; simp only [World.size_alloc, World.size_drew, World.size_setCell, List.mem_cons, List.not_mem_nil, or_false, forall_eq_or_imp, forall_eq, At, and_true, Nat.zero_add, Nat.reduceAdd, List.set_cons_zero, List.set_cons_succ] at o) | (go_at_call 18; go_must (refine (sRangeOk_any _ _ _).mono ?_); rintro e wx ⟨rfl, hbx⟩; replace hF := Fb.below (by repeat (first | assumption | apply Fb.alloc_1 | apply Fb.alloc_2 | apply Fb.alloc_3 | apply Fb.alloc_4 | apply Fb.alloc_5 | apply Fb.alloc_8 | apply Fb.drew | apply Fb.drewN)) hbx; clear hbx; (try clear o); have o := hF.own; simp only [World.size_alloc, World.size_drew, World.size_setCell, List.mem_cons, List.not_mem_nil, or_false, forall_eq_or_imp, forall_eq, At, and_true, Nat.zero_add, Nat.reduceAdd, List.set_cons_zero, List.set_cons_succ] at o))
      (go_ret; exact ⟨rfl, Fb.kp (by repeat (first | assumption | apply Fb.alloc_1 | apply Fb.alloc_2 | apply Fb.alloc_3 | apply Fb.alloc_4 | apply Fb.alloc_5 | apply Fb.alloc_8 | apply Fb.drew | apply Fb.drewN))⟩)
  · have d1 : decide (ROk a b) = false := by simp [h1]
    go_wp2_with (first | (go_at_call 20; go_must (refine (iRangeIn_any _ _ _ _ _).mono ?_); rintro e wx ⟨rfl, hbx⟩; replace hF := Fb.below (by repeat (first | assumption | apply Fb.alloc_1 | apply Fb.alloc_2 | apply Fb.alloc_3 | apply Fb.alloc_4 | apply Fb.alloc_5 | apply Fb.alloc_8 | apply Fb.drew | apply Fb.drewN)) hbx; clear hbx; (try clear o); have o := hF.own; simp only [World.size_alloc, World.size_drew, World.size_setCell, List.mem_cons, List.not_mem_nil, or_false, forall_eq_or_imp, forall_eq, At, and_true, Nat.zero_add, Nat.reduceAdd, List.set_cons_zero, List.set_cons_succ] at o) | (go_at_call 22; go_must (refine (sRangeIn_any _ _ _ _ _).mono ?_); rintro e wx ⟨rfl, hbx⟩; replace hF := Fb.below (by repeat (first | assumption | apply Fb.alloc_1 | apply Fb.alloc_2 | apply Fb.alloc_3 | apply Fb.alloc_4 | apply Fb.alloc_5 | apply Fb.alloc_8 | apply Fb.drew | apply Fb.drewN)) hbx; clear hbx; (try clear o); have o := hF.own; simp only [World.size_alloc, World.size_drew, World.size_setCell, List.mem_cons, List.not_mem_nil, or_false, forall_eq_or_imp, forall_eq, At, and_true, Nat.zero_add, Nat.reduceAdd, List.set_cons_zero, List.set_cons_succ] at o) | (go_at_call 18; go_must (refine (sRangeOk_any _ _ _).mono ?_); rintro e wx ⟨rfl, hbx⟩; replace hF := Fb.below (by repeat (first | assumption | apply Fb.alloc_1 | apply Fb.alloc_2 | apply Fb.alloc_3 | apply Fb.alloc_4 | apply Fb.alloc_5 | apply Fb.alloc_8 | apply Fb.drew | apply Fb.drewN)) hbx; clear hbx; (try clear o); have o := hF.own; simp only [World.size_alloc, World.size_drew, World.size_setCell, List.mem_cons, List.not_mem_nil, or_false, forall_eq_or_imp, forall_eq, At, and_true, Nat.zero_add, Nat.reduceAdd, List.set_cons_zero, List.set_cons_succ] at o))
    (go_ret; exact ⟨rfl, Fb.kp (by repeat (first | assumption | apply Fb.alloc_1 | apply Fb.alloc_2 | apply Fb.alloc_3 | apply Fb.alloc_4 | apply Fb.alloc_5 | apply Fb.alloc_8 | apply Fb.drew | apply Fb.drewN))⟩)
end Go.Proofs.Ytgajgjhanpnbdaa
