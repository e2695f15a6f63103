/- Ranges: what they have. Holds: the walks. Holds: HoldHas of both. -/
import Derived.Test.YtiocomefkckbfaaDoorZ9
import Derived.Test.YtiocomefkckbfaaDoorZ8
import Derived.Test.YtiocomefkckbfaaDoorZ2
set_option linter.unusedSimpArgs false
set_option linter.unusedVariables false
namespace Go.Proofs.YtiocomefkckbfaaDoor
open Go.RowKit

theorem covers_any (f b x : Int) (h : ROk f b) (hx : 0 ≤ x) (hx' : x ≤ 255) (w : World) :
    Calls Tryd.prog 72 #[.agg #[.int .i64 f, .int .i64 b], .int .i64 x] w fun e w' => e = .returned (.bool (decide (Cov f b x))) ∧ Below w.heap.size w w' := by
  have hsz := sz_pos b
  obtain ⟨h0, h8, hf, hf', hm⟩ := h
  have hsz' := sz_le b h0
  have HM := Lib.hid hm; clear hm
  go_enter Tryd.func72, Tryd.ntmps72
  go_wp2
  have c0 := fun x : Cl _ (w.alloc _) => x.c2 (new2 w (.int .i64 f) (.int .i64 b) 25)
  first | refine wp_region_new (by kernel_rfl) (by kernel_rfl) ?_ | refine wp_region_lex ?_
  repeat (any_goals (first | go_big_quiet_step (((go_at_call 68; exact Calls.cl (many_any _ _ h0 h8 _)))) | (refine wpQuiet_step (fun K hK => ?_); go_simp; split <;> (rename_i hg; refine hK _ ?_; clear hK K; simp only [hg, decide_true, decide_false]))))
  all_goals (refine wpQuiet_nil ?_; intro x)
  all_goals go_wp2
  all_goals go_ret
  all_goals (refine ⟨ret_bool ?_, ((Below.refl _ _).alloc (Nat.le_refl _) _).trans (x.below.mono (by simp))⟩; rw [Bool.eq_iff_iff]; simp; unfold Cov; omega)
theorem l1Has_any (f b x : Int) (h : ROk f b) (hx : 0 ≤ x) (hx' : x ≤ 255) (w : World) :
    Calls Tryd.prog 82 #[.agg #[.int .i64 f, .int .i64 b], .int .i64 x] w fun e w' => e = .returned (.bool (decide (Cov f b x))) ∧ Below w.heap.size w w' := by
  have hsz := sz_pos b
  obtain ⟨h0, h8, hf, hf', hm⟩ := h
  have hsz' := sz_le b h0
  have HM := Lib.hid hm; clear hm
  go_enter Tryd.func82, Tryd.ntmps82
  go_wp2
  have c0 := fun x : Cl _ (w.alloc _) => x.c2 (new2 w (.int .i64 f) (.int .i64 b) 25)
  first | refine wp_region_new (by kernel_rfl) (by kernel_rfl) ?_ | refine wp_region_lex ?_
  repeat (any_goals (first | go_big_quiet_step (((go_at_call 73; exact Calls.cl (l1Size_new _ _ h0 h8)))) | (refine wpQuiet_step (fun K hK => ?_); go_simp; split <;> (rename_i hg; refine hK _ ?_; clear hK K; simp only [hg, decide_true, decide_false]))))
  all_goals (refine wpQuiet_nil ?_; intro x)
  all_goals go_wp2
  all_goals go_ret
  all_goals (refine ⟨ret_bool ?_, ((Below.refl _ _).alloc (Nat.le_refl _) _).trans (x.below.mono (by simp))⟩)
  rw [Bool.eq_iff_iff]; simp; unfold Cov; exact div_cov hsz HM.out
theorem iRangeIn_any (f b g c : Int) (w : World) :
    Calls Tryd.prog 50 #[.agg #[.int .i64 f, .int .i64 b], .agg #[.int .i64 g, .int .i64 c]] w fun e w' => e = .returned (.bool (decide (RIn f b g c))) ∧ Below w.heap.size w w' := by
  go_enter Tryd.func50, Tryd.ntmps50
  go_upto_region 1 with (fail)
  have c0 := fun x : Cl _ ((w.alloc _).alloc _) => x.c2 (new22 w (.int .i64 f) (.int .i64 b) (.int .i64 g) (.int .i64 c) 25 25)
  have c1 := fun x : Cl _ ((w.alloc _).alloc _) => x.c2 (new22' w (.int .i64 f) (.int .i64 b) (.int .i64 g) (.int .i64 c) 25 25)
  first | refine wp_region_new (by kernel_rfl) (by kernel_rfl) ?_ | refine wp_region_lex ?_
  repeat (any_goals (first | go_big_quiet_step ((first | (go_at_call 45; exact Calls.cl (iRangeOk_any _ _ _)) | (go_at_call 72; exact Calls.cl (covers_any _ _ _ (by assumption) (by simp only [ROk] at *; omega) (by simp only [ROk] at *; omega) _)))) | (refine wpQuiet_step (fun K hK => ?_); go_simp; split <;> (rename_i hg; refine hK _ ?_; clear hK K; simp only [hg, decide_true, decide_false]))))
  all_goals (refine wpQuiet_nil ?_; intro x)
  all_goals go_wp2
  all_goals go_ret
  all_goals (refine ⟨ret_bool ?_, (((Below.refl _ _).alloc (Nat.le_refl _) _).alloc (by simp) _).trans (x.below.mono (by simp; omega))⟩; refine Bool.eq_iff_iff.2 ?_; (try simp); try (unfold RIn; first | (simp [*]; done) | (simp [*]; intros; omega) | omega))
theorem l1In_any (f b g c : Int) (h : ROk f b) (h' : ROk g c) (w : World) :
    Calls Tryd.prog 80 #[.agg #[.int .i64 f, .int .i64 b], .agg #[.int .i64 g, .int .i64 c]] w fun e w' => e = .returned (.bool (decide (RIn f b g c))) ∧ Below w.heap.size w w' := by
  go_enter Tryd.func80, Tryd.ntmps80
  go_upto_region 1 with (fail)
  have c0 := fun x : Cl _ ((w.alloc _).alloc _) => x.c2 (new22 w (.int .i64 f) (.int .i64 b) (.int .i64 g) (.int .i64 c) 25 25)
  have c1 := fun x : Cl _ ((w.alloc _).alloc _) => x.c2 (new22' w (.int .i64 f) (.int .i64 b) (.int .i64 g) (.int .i64 c) 25 25)
  first | refine wp_region_new (by kernel_rfl) (by kernel_rfl) ?_ | refine wp_region_lex ?_
  repeat (any_goals (first | go_big_quiet_step ((first | (go_at_call 82; exact Calls.cl (l1Has_any _ _ _ (by assumption) (by simp only [ROk] at *; omega) (by simp only [ROk] at *; omega) _)))) | (refine wpQuiet_step (fun K hK => ?_); go_simp; split <;> (rename_i hg; refine hK _ ?_; clear hK K; simp only [hg, decide_true, decide_false]))))
  all_goals (refine wpQuiet_nil ?_; intro x)
  all_goals go_wp2
  all_goals go_ret
  all_goals (refine ⟨ret_bool ?_, (((Below.refl _ _).alloc (Nat.le_refl _) _).alloc (by simp) _).trans (x.below.mono (by simp; omega))⟩; refine Bool.eq_iff_iff.2 ?_; (try simp); try (unfold RIn; first | (simp [*]; done) | (simp [*]; intros; omega) | omega))
theorem sRangeIn_any (f b g c : Int) (w : World) :
    Calls Tryd.prog 70 #[.agg #[.int .i64 f, .int .i64 b], .agg #[.int .i64 g, .int .i64 c]] w fun e w' => e = .returned (.bool (decide (RIn f b g c))) ∧ Below w.heap.size w w' := by
  go_enter Tryd.func70, Tryd.ntmps70
  go_upto_region 1 with (fail)
  have c0 := fun x : Cl _ ((w.alloc _).alloc _) => x.c2 (new22 w (.int .i64 f) (.int .i64 b) (.int .i64 g) (.int .i64 c) 25 25)
  have c1 := fun x : Cl _ ((w.alloc _).alloc _) => x.c2 (new22' w (.int .i64 f) (.int .i64 b) (.int .i64 g) (.int .i64 c) 25 25)
  first | refine wp_region_new (by kernel_rfl) (by kernel_rfl) ?_ | refine wp_region_lex ?_
  repeat (any_goals (first | go_big_quiet_step ((first | (go_at_call 51; exact Calls.cl (sRangeOk_any _ _ _)) | (go_at_call 80; exact Calls.cl (l1In_any _ _ _ _ (by assumption) (by assumption) _)))) | (refine wpQuiet_step (fun K hK => ?_); go_simp; split <;> (rename_i hg; refine hK _ ?_; clear hK K; simp only [hg, decide_true, decide_false]))))
  all_goals (refine wpQuiet_nil ?_; intro x)
  all_goals go_wp2
  all_goals go_ret
  all_goals (refine ⟨ret_bool ?_, (((Below.refl _ _).alloc (Nat.le_refl _) _).alloc (by simp) _).trans (x.below.mono (by simp; omega))⟩; refine Bool.eq_iff_iff.2 ?_; (try simp); try (unfold RIn; first | (simp [*]; done) | (simp [*]; intros; omega) | omega))

end Go.Proofs.YtiocomefkckbfaaDoor
set_option linter.unusedSimpArgs false
set_option linter.unusedVariables false
namespace Go.Proofs.YtiocomefkckbfaaDoor
open Go.RowKit

structure HoldD where
  h : Int
  f : Int
  b : Int
def HoldD.enc (x : HoldD) : List Value := [.int .i64 x.h, .int .i64 x.f, .int .i64 x.b]
def holdsP (h f b : Int) (x : HoldD) : Bool := decide (x.h = h ∧ RIn f b x.f x.b)

theorem l13Holds_any (v : Value) (L : List HoldD) (h f b : Int) (w : World) (hv : Rows w v 3 HoldD.enc L) :
    Calls Tryd.prog 47 #[v, .int .i64 h, .agg #[.int .i64 f, .int .i64 b]] w fun e w' => e = .returned (.bool (L.any (holdsP h f b))) ∧ Below w.heap.size w w' := by
  have hF := (Fb.start w).alloc [.int .i64 f, .int .i64 b] 25
  obtain ⟨n, cap, hn, hnc, hcap, ⟨hn0, ao, rfl⟩ | ⟨hn0, b0, off, rfl, hc⟩⟩ := hv.cases
  all_goals
    clear hv
    go_enter Tryd.func47, Tryd.ntmps47
    go_wp2
    go_loopw [7] (fun i wr => ∃ k : Nat, k ≤ n ∧ i = .int .i64 k ∧ Hid ((L.take k).any (holdsP h f b) = false) ∧ Fb w wr [(w.heap.size, [.int .i64 f, .int .i64 b])]) (fun i _ => n - (intOf i).toNat)
    case atStart => exact ⟨0, Nat.zero_le _, rfl, rfl, hF⟩
    case round =>
      clear hF
      obtain ⟨k, hk, rfl, hany, hF⟩ := hrel
      by_cases hlt : k < n
      · try (exfalso; omega)
        all_goals
          obtain ⟨x, hx⟩ := get_of hn.out hlt
          have HX := Lib.hid hx; clear hx
          have c0 := hc.out k x HX.out 0 _ rfl
          have c1 := hc.out k x HX.out 1 _ rfl
          have c2 := hc.out k x HX.out 2 _ rfl
          obtain ⟨xh, xf, xb⟩ := x
          dsimp only [Nat.add_zero] at c0 c1 c2
          have cc0 := fun x : Cl wr.heap.size wr => Cl.old hF x c0
          have cc1 := fun x : Cl wr.heap.size wr => Cl.old hF x c1
          have cc2 := fun x : Cl wr.heap.size wr => Cl.old hF x c2
          have oc := fun x : Cl _ wr => (Fb.cl hF x).own; simp only [World.size_alloc, World.size_drew, World.size_setCell, List.mem_cons, List.not_mem_nil, or_false, forall_eq_or_imp, forall_eq, At, and_true, Nat.zero_add, Nat.reduceAdd, List.set_cons_zero, List.set_cons_succ] at oc
          clear c0 c1 c2
          by_cases hh : xh = h
          · subst hh
            go_wp2
            first | refine wp_region_new (by kernel_rfl) (by kernel_rfl) ?_ | refine wp_region_lex ?_
            repeat (any_goals (first | go_big_quiet_step (((go_at_call 70; exact Calls.cl (sRangeIn_any _ _ _ _ _)))) | (refine wpQuiet_step (fun K hK => ?_); go_simp; split <;> (rename_i hg; refine hK _ ?_; clear hK K; simp only [hg, decide_true, decide_false]))))
            all_goals (refine wpQuiet_nil ?_; intro x)
            by_cases hr : RIn f b xf xb
            · have hd : decide (RIn f b xf xb) = true := by simp [hr]
              have hp : L.any (holdsP xh f b) = true := any_hit HX.out (by simp [holdsP, hr])
              have HH := Lib.hid hp; clear hp
              go_wp2
              go_ret
              exact ⟨by rw [HH.out]; rfl, (hF.cl x).kp⟩
            · have hd : decide (RIn f b xf xb) = false := by simp [hr]
              have hp := Lib.hid (any_step (p := holdsP xh f b) hany.out HX.out (by simp [holdsP, hr]))
              go_wp2
              go_roundw
              case rel => exact ⟨k + 1, by omega, by go_num, hp, hF.cl x⟩
              case measure => simp [intOf]; omega
          · have hb : (xh == h) = false := by simp [hh]
            have hp := Lib.hid (any_step (p := holdsP h f b) hany.out HX.out (by simp [holdsP, hh]))
            go_wp2
            first | refine wp_region_new (by kernel_rfl) (by kernel_rfl) ?_ | refine wp_region_lex ?_
            repeat (any_goals (first | go_big_quiet_step ((fail)) | (refine wpQuiet_step (fun K hK => ?_); go_simp; split <;> (rename_i hg; refine hK _ ?_; clear hK K; simp only [hg, decide_true, decide_false]))))
            all_goals (refine wpQuiet_nil ?_; intro x)
            go_wp2
            go_roundw
            case rel => exact ⟨k + 1, by omega, by go_num, hp, hF.cl x⟩
            case measure => simp [intOf]; omega
      · have hp := Lib.hid (any_end (p := holdsP h f b) hany.out (by rw [hn.out]; omega))
        go_wp2
        go_ret
        exact ⟨by rw [hp.out]; rfl, hF.kp⟩
end Go.Proofs.YtiocomefkckbfaaDoor
set_option linter.unusedSimpArgs false
set_option linter.unusedVariables false
namespace Go.Proofs.YtiocomefkckbfaaDoor
open Go.RowKit

theorem Cl.c3 {w : World} (x : Cl w.heap.size w) {b : Nat} {vs : List Value} {o : Nat} (h : At w b o vs) : At x.W b o vs :=
  At.move (fun o v hv => x.cell hv) (fun o v hv => x.below.frozen (World.block_lt_of_cell? w _ hv)) _ _ h

theorem HoldHas1_any (x : HoldD) (bh br : Nat) (h f b : Int) (w : World) (ch : w.cell? ⟨bh, 0, none⟩ = some (.int .i64 h)) (cf : w.cell? ⟨br, 0, none⟩ = some (.int .i64 f)) (cb : w.cell? ⟨br, 1, none⟩ = some (.int .i64 b)) :
    Calls Tryd.prog 49 #[.agg #[.int .i64 x.h, .int .i64 x.f, .int .i64 x.b], .pointer (some ⟨bh, 0, none⟩), .pointer (some ⟨br, 0, none⟩)] w fun e w' => e = .returned (.bool (holdsP h f b x)) ∧ Below w.heap.size w w' := by
  have hF := (Fb.start w).alloc [.int .i64 x.h, .int .i64 x.f, .int .i64 x.b] 41
  have c0 := hF.old ch
  have c1 := hF.old cf
  have c2 := hF.old cb
  obtain ⟨xh, xf, xb⟩ := x
  dsimp only at *
  by_cases hh : xh = h
  · subst hh
    go_enter Tryd.func49, Tryd.ntmps49
    go_wp2_with (go_at_call 50; go_must (refine (iRangeIn_any _ _ _ _ _).mono ?_); rintro e wx ⟨rfl, hbx⟩; replace hF := Fb.below (by repeat (first | assumption | apply Fb.alloc_1 | apply Fb.alloc_2 | apply Fb.alloc_3 | apply Fb.alloc_4 | apply Fb.alloc_5 | apply Fb.alloc_8 | apply Fb.drew | apply Fb.drewN | apply Fb.other)) hbx; clear hbx; (try clear o); have o := hF.own; simp only [World.size_alloc, World.size_drew, World.size_setCell, List.mem_cons, List.not_mem_nil, or_false, forall_eq_or_imp, forall_eq, At, and_true, Nat.zero_add, Nat.reduceAdd, List.set_cons_zero, List.set_cons_succ] at o)
    go_ret
    exact ⟨by simp [holdsP], hF.kp⟩
  · have hb : (xh == h) = false := by simp [hh]
    go_enter Tryd.func49, Tryd.ntmps49
    go_wp2
    go_ret
    exact ⟨by simp [holdsP, hh], hF.kp⟩

theorem IndexHold_any (v : Value) (L : List HoldD) (bh br : Nat) (h f b : Int) (w : World) (hv : Rows w v 3 HoldD.enc L) (ch : w.cell? ⟨bh, 0, none⟩ = some (.int .i64 h)) (cf : w.cell? ⟨br, 0, none⟩ = some (.int .i64 f)) (cb : w.cell? ⟨br, 1, none⟩ = some (.int .i64 b)) :
    Calls Tryd.prog 71 #[v, .func (.func 49) #[] #[.pointer (some ⟨bh, 0, none⟩), .pointer (some ⟨br, 0, none⟩)]] w fun e w' => (∃ z : Int, e = .returned (.int .i64 z) ∧ decide (0 ≤ z) = L.any (holdsP h f b)) ∧ Below w.heap.size w w' := by
  have hF := Fb.start w
  obtain ⟨n, cap, hn, hnc, hcap, ⟨hn0, ao, rfl⟩ | ⟨hn0, b0, off, rfl, hc⟩⟩ := hv.cases
  all_goals
    clear hv
    go_enter Tryd.func71, Tryd.ntmps71
    go_wp2
    go_loopw [8] (fun i wr => ∃ k : Nat, k ≤ n ∧ i = .int .i64 k ∧ Hid ((L.take k).any (holdsP h f b) = false) ∧ Fb w wr []) (fun i _ => n - (intOf i).toNat)
    case atStart => exact ⟨0, Nat.zero_le _, rfl, rfl, hF⟩
    case round =>
      clear hF
      obtain ⟨k, hk, rfl, hany, hF⟩ := hrel
      by_cases hlt : k < n
      · try (exfalso; omega)
        all_goals
          obtain ⟨x, hx⟩ := get_of hn.out hlt
          have HX := Lib.hid hx; clear hx
          have c0 := hF.old (hc.out k x HX.out 0 _ rfl)
          have c1 := hF.old (hc.out k x HX.out 1 _ rfl)
          have c2 := hF.old (hc.out k x HX.out 2 _ rfl)
          have HC := Lib.hid (HoldHas1_any x bh br h f b wr (hF.old ch) (hF.old cf) (hF.old cb))
          have HP := Lib.hid hany
          obtain ⟨xh, xf, xb⟩ := x
          dsimp only [Nat.add_zero] at c0 c1 c2
          go_wp2_with (go_at_call 49; go_must (refine HC.out.mono ?_); rintro e w1 ⟨rfl, hb1⟩)
          · have hp := Lib.hid (any_hit (p := holdsP h f b) HX.out (by assumption))
            go_ret
            exact ⟨⟨_, rfl, by rw [hp.out]; simp⟩, (hF.below hb1).kp⟩
          · have hp := Lib.hid (any_step (p := holdsP h f b) hany.out HX.out (by assumption))
            go_roundw
            case rel => exact ⟨k + 1, by omega, by go_num, hp, hF.below hb1⟩
            case measure => simp [intOf]; omega
      · have hp := Lib.hid (any_end (p := holdsP h f b) hany.out (by rw [hn.out]; omega))
        go_wp2
        go_ret
        exact ⟨⟨-1, rfl, by rw [hp.out]; simp⟩, hF.kp⟩
theorem ContainsHold_any (v : Value) (L : List HoldD) (bh br : Nat) (h f b : Int) (w : World) (hv : Rows w v 3 HoldD.enc L) (ch : w.cell? ⟨bh, 0, none⟩ = some (.int .i64 h)) (cf : w.cell? ⟨br, 0, none⟩ = some (.int .i64 f)) (cb : w.cell? ⟨br, 1, none⟩ = some (.int .i64 b)) :
    Calls Tryd.prog 48 #[v, .func (.func 49) #[] #[.pointer (some ⟨bh, 0, none⟩), .pointer (some ⟨br, 0, none⟩)]] w fun e w' => e = .returned (.bool (L.any (holdsP h f b))) ∧ Below w.heap.size w w' := by
  have HC := Lib.hid (IndexHold_any v L bh br h f b w hv ch cf cb)
  clear hv ch cf cb
  go_enter Tryd.func48, Tryd.ntmps48
  go_wp2_with fail
  refine HC.out.mono ?_; rintro e w1 ⟨⟨z, rfl, hz⟩, hb⟩
  have HZ := Lib.hid hz; clear hz
  go_wp2
  go_ret
  exact ⟨by rw [← HZ.out]; rfl, hb⟩
theorem iHoldHas_any (v : Value) (L : List HoldD) (h f b : Int) (w : World) (hv : Rows w v 3 HoldD.enc L) :
    Calls Tryd.prog 25 #[v, .int .i64 h, .agg #[.int .i64 f, .int .i64 b]] w fun e w' => e = .returned (.bool (L.any (holdsP h f b))) ∧ Below w.heap.size w w' := by
  have hF := ((Fb.start w).alloc [.int .i64 h] 3).alloc [.int .i64 f, .int .i64 b] 25
  have o := hF.own; simp only [World.size_alloc, World.size_drew, World.size_setCell, List.mem_cons, List.not_mem_nil, or_false, forall_eq_or_imp, forall_eq, At, and_true, Nat.zero_add, Nat.reduceAdd, List.set_cons_zero, List.set_cons_succ] at o
  have HV := Lib.hid (hv.below hF.kp)
  clear hv
  go_enter Tryd.func25, Tryd.ntmps25
  go_wp2_with fail
  refine (ContainsHold_any v L _ _ h f b _ HV.out (by simp) (by simp) (by simp)).mono ?_; rintro e w1 ⟨rfl, hb⟩
  go_wp2
  go_ret
  exact ⟨rfl, (hF.below hb).kp⟩
end Go.Proofs.YtiocomefkckbfaaDoor
