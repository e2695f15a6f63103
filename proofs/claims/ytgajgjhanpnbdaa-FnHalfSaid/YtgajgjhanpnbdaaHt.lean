/- FnHold: the walk. -/
import Derived.Test.YtgajgjhanpnbdaaHs
import Derived.Test.YtgajgjhanpnbdaaHd
import Derived.Test.YtgajgjhanpnbdaaLa
set_option linter.unusedSimpArgs false
set_option linter.unusedVariables false
namespace Go.Proofs.Ytgajgjhanpnbdaa
open Go.RowKit

theorem sz_half {b : Int} (h0 : 0 ≤ b) (h8 : b < 8) : sz b = 2 * sz (b + 1) := by
  obtain ⟨k, rfl⟩ := Int.eq_ofNat_of_zero_le h0
  unfold sz
  have e : (8 - (k : Int)).toNat = (8 - ((k : Int) + 1)).toNat + 1 := by omega
  rw [e, Int.pow_succ]; omega
theorem half_ok {f b : Int} (up : Bool) (h : Hlf f b) : ROk (hF f b up) (hB f b) := by
  obtain ⟨⟨h0, h8, hf, hf', hm⟩, h9⟩ := h
  have hs := sz_half h0 (by omega)
  have hp := sz_pos (b + 1)
  have hH : Hlf f b := ⟨⟨h0, h8, hf, hf', hm⟩, h9⟩
  simp only [hF, hB, if_pos hH]
  obtain ⟨q, hq⟩ := Int.dvd_of_emod_eq_zero hm
  have hq' : f = sz (b + 1) * (2 * q) := by rw [hq, hs]; rw [Int.mul_comm 2, Int.mul_assoc]
  have h256 : f + sz b ≤ 256 := by
    have hd : (256 : Int) % sz b = 0 := by
      obtain ⟨m, hm'⟩ := sz_dvd (show (0:Int) ≤ b from h0)
      have : sz 0 = 256 := by decide
      rw [this] at hm'; rw [hm']; exact Int.mul_emod_right _ _
    exact mul_gap (sz_pos b) hm hd (by omega)
  refine ⟨by omega, by omega, ?_, ?_, ?_⟩
  · split <;> omega
  · split <;> omega
  · split
    · rw [hq', show sz (b + 1) * (2 * q) + sz (b + 1) = sz (b + 1) * (2 * q + 1) by rw [Int.mul_add, Int.mul_one]]; exact Int.mul_emod_right _ _
    · rw [hq', Int.add_zero]; exact Int.mul_emod_right _ _
theorem half_in {f b : Int} (up : Bool) (h : Hlf f b) : RIn (hF f b up) (hB f b) f b := by
  refine ⟨half_ok up h, h.1, ?_, ?_⟩
  · simp only [hB, if_pos h]; omega
  · have hs := sz_half h.1.1 (by have := h.1.2.1; have := h.2; omega)
    have hp := sz_pos (b + 1)
    simp only [hF, if_pos h, Cov]; split <;> omega
theorem any_half {h f b : Int} (up : Bool) (hh : Hlf f b) {L : List HoldD} (ha : L.any (holdsP h f b) = true) : L.any (holdsP h (hF f b up) (hB f b)) = true := by
  rw [List.any_eq_true] at ha ⊢
  obtain ⟨x, hx, hp⟩ := ha
  refine ⟨x, hx, ?_⟩
  simp only [holdsP, decide_eq_true_eq] at hp ⊢
  exact ⟨hp.1, rin_trans (half_in up hh) hp.2⟩
theorem any_ok {h f b : Int} {L : List HoldD} (hr : ¬ ROk f b) : L.any (holdsP h f b) = false := by
  rw [List.any_eq_false]
  intro x _
  simp only [holdsP, decide_eq_true_eq]
  exact fun hp => hr hp.2.1

set_option maxHeartbeats 1000000 in
theorem FnHold_walk (a0 : Option Addr) (n0 c0 : Nat) (w : World) (h0 : Given w (.slice a0 n0 c0)) :
    Calls Try.prog 10 #[.slice a0 n0 c0] w fun e w' => e = .returned (.bool true) ∧ Below w.heap.size w w' := by
  by_cases hn0 : 1048576 < n0
  · have e0 : decide (1048576 < (n0 : Int)) = true := by simp; omega
    go_enter Try.func10, Try.ntmps10
    go_wp2
    go_ret
    exact ⟨rfl, Below.refl _ _⟩
  have e0 : decide (1048576 < (n0 : Int)) = false := by simp; omega
  have hF := Fb.start w
  go_enter Try.func10, Try.ntmps10
  go_wp2_with fail
  refine (drawHoldHas_any _ _ h0).mono ?_; rintro e w1 ⟨v, L, h, f, b, rfl, hV, hL, hS, hb1⟩
  replace hF := (hF.below hb1).alloc [.int .i64 f, .int .i64 b] 24
  replace hV := hV.alloc (.cells #[.int .i64 f, .int .i64 b] 24)
  clear hb1 h0
  by_cases hr : ROk f b
  · have hd : decide (ROk f b) = true := by simp [hr]
    have hHf := Lib.hid (fun hh : Hlf f b => any_half (h := h) true hh (L := L))
    generalize hq : L.any (holdsP h f b) = q at hHf
    have HQ := Lib.hid hq; clear hq
    go_wp2_with fail
    refine (iHoldHas_any v L h f b _ hV).mono ?_; rintro e w2 ⟨rfl, hb9⟩
    replace hF := hF.below hb9
    (try replace hV := hV.below hb9)
    clear hb9
    rw [HQ.out]
    have o := hF.own; simp only [World.size_alloc, World.size_drew, World.size_setCell, List.mem_cons, List.not_mem_nil, or_false, forall_eq_or_imp, forall_eq, At, and_true, Nat.zero_add, Nat.reduceAdd, List.set_cons_zero, List.set_cons_succ] at o
    go_wp2_with fail
    refine (sHoldHas_any v L h f b _ hV).mono ?_; rintro e w3 ⟨rfl, hb9⟩
    replace hF := hF.below hb9
    (try replace hV := hV.below hb9)
    clear hb9
    rw [HQ.out, hd, Bool.true_and]
    clear o; have o := hF.own; simp only [World.size_alloc, World.size_drew, World.size_setCell, List.mem_cons, List.not_mem_nil, or_false, forall_eq_or_imp, forall_eq, At, and_true, Nat.zero_add, Nat.reduceAdd, List.set_cons_zero, List.set_cons_succ] at o
    go_wp2_with fail
    refine (sRangeOk_any f b _).mono ?_; rintro e w4 ⟨rfl, hb9⟩
    replace hF := hF.below hb9
    (try replace hV := hV.below hb9)
    clear hb9
    rw [hd]
    obtain ⟨n, cap, hn, hnc, hcap, hV0⟩ := hV.cases
    rcases hV0 with ⟨hn1, ao, rfl⟩ | ⟨hn1, b0, off, rfl, hc⟩
    all_goals
      clear o; have o := hF.own; simp only [World.size_alloc, World.size_drew, World.size_setCell, List.mem_cons, List.not_mem_nil, or_false, forall_eq_or_imp, forall_eq, At, and_true, Nat.zero_add, Nat.reduceAdd, List.set_cons_zero, List.set_cons_succ] at o
      go_wp2
      go_loopw [7, 8] (fun c i wr => ∃ (k : Nat) (p : Bool), k ≤ n ∧ i = .int .i64 k ∧ c = .bool p ∧ Hid ((L.take k).any (holdsP h f b) = p) ∧ Fb w wr [(w1.heap.size, [.int .i64 f, .int .i64 b])] ∧ Rows wr (.slice _ n cap) 3 HoldD.enc L) (fun _ i _ => n - (intOf i).toNat)
      case atStart => exact ⟨0, false, Nat.zero_le _, rfl, rfl, rfl, hF, hV⟩
      case round =>
        clear hF hV o
        obtain ⟨k, p, hk, rfl, rfl, hp, hF, hV⟩ := hrel
        have o := hF.own; simp only [World.size_alloc, World.size_drew, World.size_setCell, List.mem_cons, List.not_mem_nil, or_false, forall_eq_or_imp, forall_eq, At, and_true, Nat.zero_add, Nat.reduceAdd, List.set_cons_zero, List.set_cons_succ] at o
        by_cases hlt : k < n
        · try (exfalso; omega)
          all_goals
            obtain ⟨x, hx⟩ := get_of hn.out hlt
            have HX := Lib.hid hx
            have cc0 := fun y : Cl wr.heap.size wr => y.cell (hV.get hx (j := 0) rfl)
            have cc1 := fun y : Cl wr.heap.size wr => y.cell (hV.get hx (j := 1) rfl)
            have cc2 := fun y : Cl wr.heap.size wr => y.cell (hV.get hx (j := 2) rfl)
            clear hx
            obtain ⟨xh, xf, xb⟩ := x
            dsimp only [Nat.add_zero] at cc0 cc1 cc2
            have oc := fun x : Cl _ wr => (Fb.cl hF x).own; simp only [World.size_alloc, World.size_drew, World.size_setCell, List.mem_cons, List.not_mem_nil, or_false, forall_eq_or_imp, forall_eq, At, and_true, Nat.zero_add, Nat.reduceAdd, List.set_cons_zero, List.set_cons_succ] at oc
            clear o
            cases p
            · by_cases hh : xh = h
              · subst hh
                go_wp2
                first | refine wp_region_new (by kernel_rfl) (by kernel_rfl) ?_ | refine wp_region_lex ?_
                repeat (any_goals (first | go_big_quiet_step (((go_at_call 20; exact Calls.cl (iRangeIn_any _ _ _ _ _)))) | (refine wpQuiet_step (fun K hK => ?_); go_simp; split <;> (rename_i hg; refine hK _ ?_; clear hK K; simp only [hg, decide_true, decide_false]))))
                all_goals (refine wpQuiet_nil ?_; intro x)
                go_wp2
                go_roundw
                case rel => exact ⟨k + 1, decide (RIn f b xf xb), by omega, by go_num, rfl, by show _ = _; rw [take_succ' HX.out, List.any_append, hp.out]; simp [holdsP], hF.cl x, hV.below x.below⟩
                case measure => simp [intOf]; omega
              · have hb : (xh == h) = false := by simp [hh]
                have HH := Lib.hid hh; clear hh
                go_wp2
                first | refine wp_region_new (by kernel_rfl) (by kernel_rfl) ?_ | refine wp_region_lex ?_
                repeat (any_goals (first | go_big_quiet_step ((fail)) | (refine wpQuiet_step (fun K hK => ?_); go_simp; split <;> (rename_i hg; refine hK _ ?_; clear hK K; simp only [hg, decide_true, decide_false]))))
                all_goals (refine wpQuiet_nil ?_; intro x)
                go_wp2
                go_roundw
                case rel => exact ⟨k + 1, false, by omega, by go_num, rfl, by show _ = _; rw [take_succ' HX.out, List.any_append, hp.out]; simp [holdsP, HH.out], hF.cl x, hV.below x.below⟩
                case measure => simp [intOf]; omega
            · go_wp2
              first | refine wp_region_new (by kernel_rfl) (by kernel_rfl) ?_ | refine wp_region_lex ?_
              repeat (any_goals (first | go_big_quiet_step ((fail)) | (refine wpQuiet_step (fun K hK => ?_); go_simp; split <;> (rename_i hg; refine hK _ ?_; clear hK K; simp only [hg, decide_true, decide_false]))))
              all_goals (refine wpQuiet_nil ?_; intro x)
              go_wp2
              go_roundw
              case rel => exact ⟨k + 1, true, by omega, by go_num, rfl, by show _ = _; rw [take_succ' HX.out, List.any_append, hp.out]; simp, hF.cl x, hV.below x.below⟩
              case measure => simp [intOf]; omega
        · have hpq : p = q := by rw [← hp.out, ← HQ.out, List.take_of_length_le (by rw [hn.out]; omega)]
          subst hpq
          cases p
          · go_wp2_with (go_at_call 17; go_must (refine (iRangeHalf_lit _ _ _ _).mono ?_); rintro e wx ⟨rfl, hbx⟩; replace hF := Fb.below (by repeat (first | assumption | apply Fb.alloc_1 | apply Fb.alloc_2 | apply Fb.alloc_3 | apply Fb.alloc_4 | apply Fb.alloc_5 | apply Fb.alloc_8 | apply Fb.drew | apply Fb.drewN | apply Fb.other)) hbx; clear hbx o; have o := hF.own; simp only [World.size_alloc, World.size_drew, World.size_setCell, List.mem_cons, List.not_mem_nil, or_false, forall_eq_or_imp, forall_eq, At, and_true, Nat.zero_add, Nat.reduceAdd, List.set_cons_zero, List.set_cons_succ] at o)
            (go_ret; exact ⟨rfl, Fb.kp (by repeat (first | assumption | apply Fb.alloc_1 | apply Fb.alloc_2 | apply Fb.alloc_3 | apply Fb.alloc_4 | apply Fb.alloc_5 | apply Fb.alloc_8 | apply Fb.drew | apply Fb.drewN | apply Fb.other))⟩)
          · by_cases hH : Hlf f b
            · have d1 : decide (Hlf f b) = true := by simp [hH]
              have HA := Lib.hid (hHf.out hH rfl)
              clear hH
              go_wp2_with fail
              refine (iRangeHalf_lit f b true _).mono ?_; rintro e w6 ⟨rfl, hb9⟩
              replace hF := hF.below hb9
              (try replace hV := hV.below hb9)
              clear hb9
              clear o; have o := hF.own; simp only [World.size_alloc, World.size_drew, World.size_setCell, List.mem_cons, List.not_mem_nil, or_false, forall_eq_or_imp, forall_eq, At, and_true, Nat.zero_add, Nat.reduceAdd, List.set_cons_zero, List.set_cons_succ] at o
              go_wp2_with fail
              refine (iHoldHas_any _ L h _ _ _ (hV.alloc _)).mono ?_; rintro e w7 ⟨rfl, hb7⟩
              rw [HA.out]
              replace hF := Fb.below (by repeat (first | assumption | apply Fb.alloc_1 | apply Fb.alloc_2 | apply Fb.alloc_3 | apply Fb.alloc_4 | apply Fb.alloc_5 | apply Fb.alloc_8 | apply Fb.drew | apply Fb.drewN | apply Fb.other)) hb7
              go_wp2
              (go_ret; exact ⟨rfl, Fb.kp (by repeat (first | assumption | apply Fb.alloc_1 | apply Fb.alloc_2 | apply Fb.alloc_3 | apply Fb.alloc_4 | apply Fb.alloc_5 | apply Fb.alloc_8 | apply Fb.drew | apply Fb.drewN | apply Fb.other))⟩)
            · have d1 : decide (Hlf f b) = false := by simp [hH]
              go_wp2_with (go_at_call 17; go_must (refine (iRangeHalf_lit _ _ _ _).mono ?_); rintro e wx ⟨rfl, hbx⟩; replace hF := Fb.below (by repeat (first | assumption | apply Fb.alloc_1 | apply Fb.alloc_2 | apply Fb.alloc_3 | apply Fb.alloc_4 | apply Fb.alloc_5 | apply Fb.alloc_8 | apply Fb.drew | apply Fb.drewN | apply Fb.other)) hbx; clear hbx o; have o := hF.own; simp only [World.size_alloc, World.size_drew, World.size_setCell, List.mem_cons, List.not_mem_nil, or_false, forall_eq_or_imp, forall_eq, At, and_true, Nat.zero_add, Nat.reduceAdd, List.set_cons_zero, List.set_cons_succ] at o)
              (go_ret; exact ⟨rfl, Fb.kp (by repeat (first | assumption | apply Fb.alloc_1 | apply Fb.alloc_2 | apply Fb.alloc_3 | apply Fb.alloc_4 | apply Fb.alloc_5 | apply Fb.alloc_8 | apply Fb.drew | apply Fb.drewN | apply Fb.other))⟩)
  · have hd : decide (ROk f b) = false := by simp [hr]
    have hq := Lib.hid (any_ok (h := h) (L := L) hr)
    go_wp2_with fail
    refine (iHoldHas_any v L h f b _ hV).mono ?_; rintro e w2 ⟨rfl, hb9⟩
    replace hF := hF.below hb9
    (try replace hV := hV.below hb9)
    clear hb9
    rw [hq.out]
    have o := hF.own; simp only [World.size_alloc, World.size_drew, World.size_setCell, List.mem_cons, List.not_mem_nil, or_false, forall_eq_or_imp, forall_eq, At, and_true, Nat.zero_add, Nat.reduceAdd, List.set_cons_zero, List.set_cons_succ] at o
    go_wp2_with fail
    refine (sHoldHas_any v L h f b _ hV).mono ?_; rintro e w3 ⟨rfl, hb9⟩
    replace hF := hF.below hb9
    (try replace hV := hV.below hb9)
    clear hb9
    rw [hq.out, hd, Bool.false_and]
    clear o; have o := hF.own; simp only [World.size_alloc, World.size_drew, World.size_setCell, List.mem_cons, List.not_mem_nil, or_false, forall_eq_or_imp, forall_eq, At, and_true, Nat.zero_add, Nat.reduceAdd, List.set_cons_zero, List.set_cons_succ] at o
    go_wp2_with fail
    refine (sRangeOk_any f b _).mono ?_; rintro e w4 ⟨rfl, hb9⟩
    replace hF := hF.below hb9
    (try replace hV := hV.below hb9)
    clear hb9
    clear o; have o := hF.own; simp only [World.size_alloc, World.size_drew, World.size_setCell, List.mem_cons, List.not_mem_nil, or_false, forall_eq_or_imp, forall_eq, At, and_true, Nat.zero_add, Nat.reduceAdd, List.set_cons_zero, List.set_cons_succ] at o
    go_wp2_with fail
    refine (sHoldHas_any v L h f b _ hV).mono ?_; rintro e w5 ⟨rfl, hb9⟩
    replace hF := hF.below hb9
    (try replace hV := hV.below hb9)
    clear hb9
    rw [hq.out, hd, Bool.false_and]
    go_wp2
    go_ret
    exact ⟨rfl, hF.kp⟩
end Go.Proofs.Ytgajgjhanpnbdaa
