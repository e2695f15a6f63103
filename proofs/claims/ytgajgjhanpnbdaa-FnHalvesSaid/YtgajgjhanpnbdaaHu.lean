/- FnHalf, FnHalves: the walks. -/
import Derived.Test.YtgajgjhanpnbdaaHs
import Derived.Test.YtgajgjhanpnbdaaHt
set_option linter.unusedSimpArgs false
set_option linter.unusedVariables false
namespace Go.Proofs.Ytgajgjhanpnbdaa
open Go.RowKit

theorem drawHalf_any (v : Value) (w : World) (h : Given w v) :
    Calls Try.prog 15 #[v] w fun e w' => ∃ (f b : Int) (up : Bool), e = .returned (.tuple #[.agg #[.int .i64 f, .int .i64 b], .bool up]) ∧ Sm f b ∧ Below w.heap.size w w' := by
  have hF := (Fr.start (w.heap.size + 1) w).alloc' [.int .i64 0, .int .i64 0] 24 (by omega)
  have hG := h.alloc (.cells #[.int .i64 0, .int .i64 0] 24)
  go_enter Try.func15, Try.ntmps15
  go_wp2_with fail
  refine (open_any v _ hG).mono ?_; rintro e w1 ⟨rfl, hR, hb1⟩
  simp only [World.size_alloc] at hR
  replace hF := hF.below hb1
  clear h hG hb1
  generalize hr : w.heap.size + 1 = r at *
  have o := hF.own; simp only [World.size_alloc, World.size_drew, World.size_setCell, List.mem_cons, List.not_mem_nil, or_false, forall_eq_or_imp, forall_eq, At, and_true, Nat.zero_add, Nat.reduceAdd, List.set_cons_zero, List.set_cons_succ] at o
  go_wp2_with (first | (go_at_call 45; go_must (refine (pick_any r _ _ _ (by repeat (first | assumption | apply Rd.alloc | apply Rd.drew | apply Rd.drewN | (refine Rd.setCell ?_ (by dsimp only; omega) _) | apply Rd.setCell | ((try dsimp only); omega))) (by omega) (by omega) (by omega)).mono ?_); rintro e wx ⟨vx, rfl, ux, lx, hRx, hKx⟩; replace hF := Fr.call (by repeat (first | assumption | apply Fr.drew | apply Fr.drewN | apply Fr.alloc_1 | apply Fr.alloc_2 | apply Fr.alloc_3 | apply Fr.alloc_4 | apply Fr.alloc_5 | apply Fr.alloc_8 | apply Fr.set | (simp only [List.length_cons, List.length_nil, List.length_set]; omega) | (simp only [List.mem_cons, List.not_mem_nil, or_false, forall_eq_or_imp, forall_eq, ne_eq]; omega) | (simp only [World.size_alloc, World.size_setCell, World.size_drew]; omega) | omega)) hKx; replace hR := hRx; (try replace hV := Rows.kp (by repeat (first | assumption | apply Rows.alloc | apply Rows.drew | (refine Rows.set ?_ hfr (by dsimp only; omega) _) | (refine Rows.setO ?_ (by simp [Value.ownBlock]; omega) _))) hKx hfr hfl); have hsx := hKx.size; (try simp only [World.size_alloc, World.size_setCell, World.size_drew] at hsx); clear hRx hKx; (try clear o); have o := hF.own; simp only [World.size_alloc, World.size_drew, World.size_setCell, List.mem_cons, List.not_mem_nil, or_false, forall_eq_or_imp, forall_eq, At, and_true, Nat.zero_add, Nat.reduceAdd, List.set_cons_zero, List.set_cons_succ] at o) | (go_at_call 44; go_must (refine (l91Range_any r _ _ (by repeat (first | assumption | apply Rd.alloc | apply Rd.drew | apply Rd.drewN | (refine Rd.setCell ?_ (by dsimp only; omega) _) | apply Rd.setCell | ((try dsimp only); omega))) (by omega)).mono ?_); rintro e wx ⟨fx, bx, rfl, flx, fhx, blx, bhx, ⟨kx, hkx, hRx⟩, hKx⟩; replace hF := Fr.call (by repeat (first | assumption | apply Fr.drew | apply Fr.drewN | apply Fr.alloc_1 | apply Fr.alloc_2 | apply Fr.alloc_3 | apply Fr.alloc_4 | apply Fr.alloc_5 | apply Fr.alloc_8 | apply Fr.set | (simp only [List.length_cons, List.length_nil, List.length_set]; omega) | (simp only [List.mem_cons, List.not_mem_nil, or_false, forall_eq_or_imp, forall_eq, ne_eq]; omega) | (simp only [World.size_alloc, World.size_setCell, World.size_drew]; omega) | omega)) hKx; replace hR := hRx; (try replace hV := Rows.kp (by repeat (first | assumption | apply Rows.alloc | apply Rows.drew | (refine Rows.set ?_ hfr (by dsimp only; omega) _) | (refine Rows.setO ?_ (by simp [Value.ownBlock]; omega) _))) hKx hfr hfl); have hsx := hKx.size; (try simp only [World.size_alloc, World.size_setCell, World.size_drew] at hsx); clear hRx hKx; (try clear o); have o := hF.own; simp only [World.size_alloc, World.size_drew, World.size_setCell, List.mem_cons, List.not_mem_nil, or_false, forall_eq_or_imp, forall_eq, At, and_true, Nat.zero_add, Nat.reduceAdd, List.set_cons_zero, List.set_cons_succ] at o))
  exact bodyPost_ret (v := .tuple #[.agg #[.int .i64 fx, .int .i64 bx], .bool (vx == 0)]) (by simp [results, Try.results15, go_sem, o]) rfl ⟨fx, bx, _, rfl, ⟨by omega, by omega, by omega, by omega⟩, (by have kp := hF.kp; repeat (first | (refine Below.setCell ?_ (by dsimp only; omega) _) | apply Below.drew | (refine Below.alloc ?_ (by first | (simp only [World.size_alloc, World.size_setCell, World.size_drew]; omega) | omega) _) | exact kp.below (by omega) (Nat.le_refl _)))⟩

theorem hF_of {f b : Int} (h : Hlf f b) : hF f b true = f + sz (b + 1) ∧ hF f b false = f ∧ hB f b = b + 1 := by
  simp [hF, hB, h]
theorem half_split {f b : Int} (up : Bool) (h : Hlf f b) (x : Int) :
    (RHas f b x ↔ RHas (hF f b up) (hB f b) x ∨ RHas (hF f b (!up)) (hB f b) x) ∧ ¬ (RHas (hF f b up) (hB f b) x ∧ RHas (hF f b (!up)) (hB f b) x) := by
  have k1 := half_ok up h
  have k2 := half_ok (!up) h
  have hs := sz_half h.1.1 (by have := h.1.2.1; have := h.2; omega)
  have hp := sz_pos (b + 1)
  obtain ⟨e1, e2, e3⟩ := hF_of h
  unfold RHas
  simp only [k1, k2, h.1, true_and]
  by_cases hA : Adr x
  · simp only [hA, true_and]
    cases up <;> simp only [Bool.not_true, Bool.not_false, e1, e2, e3, Cov] <;> omega
  · simp [hA]

/-- How many addresses a range has; none, if it is not ok. -/
def mny (f b : Int) : Int := if ROk f b then sz b else 0
theorem iRangeMany_m (f b : Int) (w : World) :
    Calls Try.prog 23 #[.agg #[.int .i64 f, .int .i64 b]] w fun e w' => e = .returned (.int .i64 (mny f b)) ∧ Below w.heap.size w w' := iRangeMany_any f b w

set_option maxHeartbeats 1000000 in
theorem FnHalf_walk (a0 : Option Addr) (n0 c0 : Nat) (w : World) (h0 : Given w (.slice a0 n0 c0)) :
    Calls Try.prog 3 #[.slice a0 n0 c0] w fun e w' => e = .returned (.bool true) ∧ Below w.heap.size w w' := by
  by_cases hn0 : 1048576 < n0
  · have e0 : decide (1048576 < (n0 : Int)) = true := by simp; omega
    go_enter Try.func3, Try.ntmps3
    go_wp2
    go_ret
    exact ⟨rfl, Below.refl _ _⟩
  have e0 : decide (1048576 < (n0 : Int)) = false := by simp; omega
  have hF := Fb.start w
  go_enter Try.func3, Try.ntmps3
  go_wp2_with fail
  refine (drawHalf_any _ _ h0).mono ?_; rintro e w1 ⟨f, b, up, rfl, hS, hb1⟩
  replace hF := hF.below hb1
  clear hb1 h0
  have H1 := iRangeHalf_lit f b up
  have H2 := iRangeHalf_lit f b (!up)
  have H3 := sRangeHalf_lit f b up
  by_cases hH : Hlf f b
  · have dr : decide (ROk f b) = true := by simp [hH.1]
    have dh : decide (Hlf f b) = true := by simp [hH]
    have hsp := half_split up hH
    have hin : decide (RIn (Ytgajgjhanpnbdaa.hF f b up) (Ytgajgjhanpnbdaa.hB f b) f b) = true := by simp [half_in up hH]
    have hup : decide (Ytgajgjhanpnbdaa.hF f b (!up) < Ytgajgjhanpnbdaa.hF f b up) = up := by
      have hp := sz_pos (b + 1)
      obtain ⟨e1, e2, e3⟩ := hF_of hH
      cases up <;> simp only [Bool.not_true, Bool.not_false, e1, e2] <;> simp <;> omega
    rw [dh] at H1 H2 H3
    generalize Ytgajgjhanpnbdaa.hF f b up = f1 at *
    generalize Ytgajgjhanpnbdaa.hF f b (!up) = g1 at *
    generalize Ytgajgjhanpnbdaa.hB f b = b1 at *
    have G1 := Lib.hid H1
    have G2 := Lib.hid H2
    have G3 := Lib.hid H3
    have HS := Lib.hid hsp
    clear H1 H2 H3 hsp hH
    go_wp2_with fail
    refine (G3.out _).mono ?_; rintro e w2 ⟨rfl, hb9⟩
    replace hF := Fb.below (by repeat (first | assumption | apply Fb.alloc_1 | apply Fb.alloc_2 | apply Fb.alloc_3 | apply Fb.alloc_4 | apply Fb.alloc_5 | apply Fb.alloc_8 | apply Fb.drew | apply Fb.drewN | apply Fb.other)) hb9
    (try replace hV := Rows.below (by repeat (first | assumption | apply Rows.alloc | apply Rows.drew | (refine Rows.set ?_ hfr (by dsimp only; omega) _) | (refine Rows.setO ?_ (by simp [Value.ownBlock]; omega) _))) hb9)
    clear hb9; (try clear o)
    have o := hF.own; simp only [World.size_alloc, World.size_drew, World.size_setCell, List.mem_cons, List.not_mem_nil, or_false, forall_eq_or_imp, forall_eq, At, and_true, Nat.zero_add, Nat.reduceAdd, List.set_cons_zero, List.set_cons_succ] at o
    go_wp2_with fail
    refine (G1.out _).mono ?_; rintro e w3 ⟨rfl, hb9⟩
    replace hF := Fb.below (by repeat (first | assumption | apply Fb.alloc_1 | apply Fb.alloc_2 | apply Fb.alloc_3 | apply Fb.alloc_4 | apply Fb.alloc_5 | apply Fb.alloc_8 | apply Fb.drew | apply Fb.drewN | apply Fb.other)) hb9
    (try replace hV := Rows.below (by repeat (first | assumption | apply Rows.alloc | apply Rows.drew | (refine Rows.set ?_ hfr (by dsimp only; omega) _) | (refine Rows.setO ?_ (by simp [Value.ownBlock]; omega) _))) hb9)
    clear hb9; (try clear o)
    have o := hF.own; simp only [World.size_alloc, World.size_drew, World.size_setCell, List.mem_cons, List.not_mem_nil, or_false, forall_eq_or_imp, forall_eq, At, and_true, Nat.zero_add, Nat.reduceAdd, List.set_cons_zero, List.set_cons_succ] at o
    go_wp2_with fail
    refine (sRangeOk_any f b _).mono ?_; rintro e w4 ⟨rfl, hb9⟩
    replace hF := Fb.below (by repeat (first | assumption | apply Fb.alloc_1 | apply Fb.alloc_2 | apply Fb.alloc_3 | apply Fb.alloc_4 | apply Fb.alloc_5 | apply Fb.alloc_8 | apply Fb.drew | apply Fb.drewN | apply Fb.other)) hb9
    (try replace hV := Rows.below (by repeat (first | assumption | apply Rows.alloc | apply Rows.drew | (refine Rows.set ?_ hfr (by dsimp only; omega) _) | (refine Rows.setO ?_ (by simp [Value.ownBlock]; omega) _))) hb9)
    clear hb9; (try clear o)
    have o := hF.own; simp only [World.size_alloc, World.size_drew, World.size_setCell, List.mem_cons, List.not_mem_nil, or_false, forall_eq_or_imp, forall_eq, At, and_true, Nat.zero_add, Nat.reduceAdd, List.set_cons_zero, List.set_cons_succ] at o
    go_wp2_with fail
    refine (G2.out _).mono ?_; rintro e w5 ⟨rfl, hb9⟩
    replace hF := Fb.below (by repeat (first | assumption | apply Fb.alloc_1 | apply Fb.alloc_2 | apply Fb.alloc_3 | apply Fb.alloc_4 | apply Fb.alloc_5 | apply Fb.alloc_8 | apply Fb.drew | apply Fb.drewN | apply Fb.other)) hb9
    (try replace hV := Rows.below (by repeat (first | assumption | apply Rows.alloc | apply Rows.drew | (refine Rows.set ?_ hfr (by dsimp only; omega) _) | (refine Rows.setO ?_ (by simp [Value.ownBlock]; omega) _))) hb9)
    clear hb9; (try clear o)
    have o := hF.own; simp only [World.size_alloc, World.size_drew, World.size_setCell, List.mem_cons, List.not_mem_nil, or_false, forall_eq_or_imp, forall_eq, At, and_true, Nat.zero_add, Nat.reduceAdd, List.set_cons_zero, List.set_cons_succ] at o
    go_wp2
    go_loopw [11] (fun c wr => ∃ (k : Nat), k ≤ 256 ∧ c = .int .i64 k ∧ Fb w wr [(w5.heap.size, [.int .i64 g1, .int .i64 b1]), (w3.heap.size, [.int .i64 f1, .int .i64 b1]), (w2.heap.size, [.int .i64 f1, .int .i64 b1]), (w1.heap.size, [.int .i64 f, .int .i64 b])]) (fun c _ => 256 - (intOf c).toNat)
    case atStart => exact ⟨0, by omega, rfl, (by repeat (first | assumption | apply Fb.alloc_1 | apply Fb.alloc_2 | apply Fb.alloc_3 | apply Fb.alloc_4 | apply Fb.alloc_5 | apply Fb.alloc_8 | apply Fb.drew | apply Fb.drewN | apply Fb.other))⟩
    case round =>
      clear hF o
      obtain ⟨k, hk, rfl, hF⟩ := hrel
      have o := hF.own; simp only [World.size_alloc, World.size_drew, World.size_setCell, List.mem_cons, List.not_mem_nil, or_false, forall_eq_or_imp, forall_eq, At, and_true, Nat.zero_add, Nat.reduceAdd, List.set_cons_zero, List.set_cons_succ] at o
      have hkk := HS.out k
      by_cases hlt : k < 256
      · by_cases p1 : RHas f1 b1 k
        · have p2 : ¬ RHas g1 b1 k := fun h => hkk.2 ⟨p1, h⟩
          have p3 : RHas f b k := hkk.1.2 (Or.inl p1)
          have d1 : decide (RHas f1 b1 k) = true := by simp [p1]
          have d2 : decide (RHas g1 b1 k) = false := by simp [p2]
          have d3 : decide (RHas f b k) = true := by simp [p3]
          clear p1 p2 p3 hkk
          go_wp2_with (go_at_call 19; go_must (refine (iRangeHas_any _ _ _ _).mono ?_); rintro e wx ⟨rfl, hbx⟩; replace hF := Fb.below (by repeat (first | assumption | apply Fb.alloc_1 | apply Fb.alloc_2 | apply Fb.alloc_3 | apply Fb.alloc_4 | apply Fb.alloc_5 | apply Fb.alloc_8 | apply Fb.drew | apply Fb.drewN | apply Fb.other)) hbx; clear hbx; (try clear o); have o := hF.own; simp only [World.size_alloc, World.size_drew, World.size_setCell, List.mem_cons, List.not_mem_nil, or_false, forall_eq_or_imp, forall_eq, At, and_true, Nat.zero_add, Nat.reduceAdd, List.set_cons_zero, List.set_cons_succ] at o)
          go_roundw
          case rel => exact ⟨k + 1, by omega, by go_num, hF⟩
          case measure => simp [intOf]; omega
        · by_cases p2 : RHas g1 b1 k
          · have p3 : RHas f b k := hkk.1.2 (Or.inr p2)
            have d1 : decide (RHas f1 b1 k) = false := by simp [p1]
            have d2 : decide (RHas g1 b1 k) = true := by simp [p2]
            have d3 : decide (RHas f b k) = true := by simp [p3]
            clear p1 p2 p3 hkk
            go_wp2_with (go_at_call 19; go_must (refine (iRangeHas_any _ _ _ _).mono ?_); rintro e wx ⟨rfl, hbx⟩; replace hF := Fb.below (by repeat (first | assumption | apply Fb.alloc_1 | apply Fb.alloc_2 | apply Fb.alloc_3 | apply Fb.alloc_4 | apply Fb.alloc_5 | apply Fb.alloc_8 | apply Fb.drew | apply Fb.drewN | apply Fb.other)) hbx; clear hbx; (try clear o); have o := hF.own; simp only [World.size_alloc, World.size_drew, World.size_setCell, List.mem_cons, List.not_mem_nil, or_false, forall_eq_or_imp, forall_eq, At, and_true, Nat.zero_add, Nat.reduceAdd, List.set_cons_zero, List.set_cons_succ] at o)
            go_roundw
            case rel => exact ⟨k + 1, by omega, by go_num, hF⟩
            case measure => simp [intOf]; omega
          · have p3 : ¬ RHas f b k := fun h => by rcases hkk.1.1 h with h | h; exact p1 h; exact p2 h
            have d1 : decide (RHas f1 b1 k) = false := by simp [p1]
            have d2 : decide (RHas g1 b1 k) = false := by simp [p2]
            have d3 : decide (RHas f b k) = false := by simp [p3]
            clear p1 p2 p3 hkk
            go_wp2_with (go_at_call 19; go_must (refine (iRangeHas_any _ _ _ _).mono ?_); rintro e wx ⟨rfl, hbx⟩; replace hF := Fb.below (by repeat (first | assumption | apply Fb.alloc_1 | apply Fb.alloc_2 | apply Fb.alloc_3 | apply Fb.alloc_4 | apply Fb.alloc_5 | apply Fb.alloc_8 | apply Fb.drew | apply Fb.drewN | apply Fb.other)) hbx; clear hbx; (try clear o); have o := hF.own; simp only [World.size_alloc, World.size_drew, World.size_setCell, List.mem_cons, List.not_mem_nil, or_false, forall_eq_or_imp, forall_eq, At, and_true, Nat.zero_add, Nat.reduceAdd, List.set_cons_zero, List.set_cons_succ] at o)
            go_roundw
            case rel => exact ⟨k + 1, by omega, by go_num, hF⟩
            case measure => simp [intOf]; omega
      · have hk' : k = 256 := by omega
        subst hk'
        cases up
        · have hu : decide (g1 < f1) = false := hup
          clear hup hkk
          go_wp2_with (go_at_call 20; go_must (refine (iRangeIn_any _ _ _ _ _).mono ?_); rintro e wx ⟨rfl, hbx⟩; replace hF := Fb.below (by repeat (first | assumption | apply Fb.alloc_1 | apply Fb.alloc_2 | apply Fb.alloc_3 | apply Fb.alloc_4 | apply Fb.alloc_5 | apply Fb.alloc_8 | apply Fb.drew | apply Fb.drewN | apply Fb.other)) hbx; clear hbx; (try clear o); have o := hF.own; simp only [World.size_alloc, World.size_drew, World.size_setCell, List.mem_cons, List.not_mem_nil, or_false, forall_eq_or_imp, forall_eq, At, and_true, Nat.zero_add, Nat.reduceAdd, List.set_cons_zero, List.set_cons_succ] at o)
          (go_ret; exact ⟨rfl, Fb.kp (by repeat (first | assumption | apply Fb.alloc_1 | apply Fb.alloc_2 | apply Fb.alloc_3 | apply Fb.alloc_4 | apply Fb.alloc_5 | apply Fb.alloc_8 | apply Fb.drew | apply Fb.drewN | apply Fb.other))⟩)
        · have hu : decide (g1 < f1) = true := hup
          clear hup hkk
          go_wp2_with (go_at_call 20; go_must (refine (iRangeIn_any _ _ _ _ _).mono ?_); rintro e wx ⟨rfl, hbx⟩; replace hF := Fb.below (by repeat (first | assumption | apply Fb.alloc_1 | apply Fb.alloc_2 | apply Fb.alloc_3 | apply Fb.alloc_4 | apply Fb.alloc_5 | apply Fb.alloc_8 | apply Fb.drew | apply Fb.drewN | apply Fb.other)) hbx; clear hbx; (try clear o); have o := hF.own; simp only [World.size_alloc, World.size_drew, World.size_setCell, List.mem_cons, List.not_mem_nil, or_false, forall_eq_or_imp, forall_eq, At, and_true, Nat.zero_add, Nat.reduceAdd, List.set_cons_zero, List.set_cons_succ] at o)
          (go_ret; exact ⟨rfl, Fb.kp (by repeat (first | assumption | apply Fb.alloc_1 | apply Fb.alloc_2 | apply Fb.alloc_3 | apply Fb.alloc_4 | apply Fb.alloc_5 | apply Fb.alloc_8 | apply Fb.drew | apply Fb.drewN | apply Fb.other))⟩)
  · have dh : decide (Hlf f b) = false := by simp [hH]
    have hz : ∀ up, Ytgajgjhanpnbdaa.hF f b up = 0 := fun up => by simp [Ytgajgjhanpnbdaa.hF, hH]
    have hz' : Ytgajgjhanpnbdaa.hB f b = 0 := by simp [Ytgajgjhanpnbdaa.hB, hH]
    rw [dh, hz, hz'] at H1 H3
    have G1 := Lib.hid H1
    have G3 := Lib.hid H3
    clear H1 H2 H3 hz hz'
    by_cases hr : ROk f b
    · have dr : decide (ROk f b) = true := by simp [hr]
      obtain rfl : b = 8 := by
        by_cases e : b = 8
        · exact e
        · exact (hH ⟨hr, e⟩).elim
      clear hH
      go_wp2_with fail
      refine (G3.out _).mono ?_; rintro e w2 ⟨rfl, hb9⟩
      replace hF := Fb.below (by repeat (first | assumption | apply Fb.alloc_1 | apply Fb.alloc_2 | apply Fb.alloc_3 | apply Fb.alloc_4 | apply Fb.alloc_5 | apply Fb.alloc_8 | apply Fb.drew | apply Fb.drewN | apply Fb.other)) hb9
      (try replace hV := Rows.below (by repeat (first | assumption | apply Rows.alloc | apply Rows.drew | (refine Rows.set ?_ hfr (by dsimp only; omega) _) | (refine Rows.setO ?_ (by simp [Value.ownBlock]; omega) _))) hb9)
      clear hb9; (try clear o)
      have o := hF.own; simp only [World.size_alloc, World.size_drew, World.size_setCell, List.mem_cons, List.not_mem_nil, or_false, forall_eq_or_imp, forall_eq, At, and_true, Nat.zero_add, Nat.reduceAdd, List.set_cons_zero, List.set_cons_succ] at o
      go_wp2_with fail
      refine (G1.out _).mono ?_; rintro e w3 ⟨rfl, hb9⟩
      replace hF := Fb.below (by repeat (first | assumption | apply Fb.alloc_1 | apply Fb.alloc_2 | apply Fb.alloc_3 | apply Fb.alloc_4 | apply Fb.alloc_5 | apply Fb.alloc_8 | apply Fb.drew | apply Fb.drewN | apply Fb.other)) hb9
      (try replace hV := Rows.below (by repeat (first | assumption | apply Rows.alloc | apply Rows.drew | (refine Rows.set ?_ hfr (by dsimp only; omega) _) | (refine Rows.setO ?_ (by simp [Value.ownBlock]; omega) _))) hb9)
      clear hb9; (try clear o)
      have o := hF.own; simp only [World.size_alloc, World.size_drew, World.size_setCell, List.mem_cons, List.not_mem_nil, or_false, forall_eq_or_imp, forall_eq, At, and_true, Nat.zero_add, Nat.reduceAdd, List.set_cons_zero, List.set_cons_succ] at o
      go_wp2_with fail
      refine (sRangeOk_any f 8 _).mono ?_; rintro e w4 ⟨rfl, hb9⟩
      replace hF := Fb.below (by repeat (first | assumption | apply Fb.alloc_1 | apply Fb.alloc_2 | apply Fb.alloc_3 | apply Fb.alloc_4 | apply Fb.alloc_5 | apply Fb.alloc_8 | apply Fb.drew | apply Fb.drewN | apply Fb.other)) hb9
      (try replace hV := Rows.below (by repeat (first | assumption | apply Rows.alloc | apply Rows.drew | (refine Rows.set ?_ hfr (by dsimp only; omega) _) | (refine Rows.setO ?_ (by simp [Value.ownBlock]; omega) _))) hb9)
      clear hb9; (try clear o)
      have o := hF.own; simp only [World.size_alloc, World.size_drew, World.size_setCell, List.mem_cons, List.not_mem_nil, or_false, forall_eq_or_imp, forall_eq, At, and_true, Nat.zero_add, Nat.reduceAdd, List.set_cons_zero, List.set_cons_succ] at o
      go_wp2
      (go_ret; exact ⟨rfl, Fb.kp (by repeat (first | assumption | apply Fb.alloc_1 | apply Fb.alloc_2 | apply Fb.alloc_3 | apply Fb.alloc_4 | apply Fb.alloc_5 | apply Fb.alloc_8 | apply Fb.drew | apply Fb.drewN | apply Fb.other))⟩)
    · have dr : decide (ROk f b) = false := by simp [hr]
      clear hH
      go_wp2_with fail
      refine (G3.out _).mono ?_; rintro e w2 ⟨rfl, hb9⟩
      replace hF := Fb.below (by repeat (first | assumption | apply Fb.alloc_1 | apply Fb.alloc_2 | apply Fb.alloc_3 | apply Fb.alloc_4 | apply Fb.alloc_5 | apply Fb.alloc_8 | apply Fb.drew | apply Fb.drewN | apply Fb.other)) hb9
      (try replace hV := Rows.below (by repeat (first | assumption | apply Rows.alloc | apply Rows.drew | (refine Rows.set ?_ hfr (by dsimp only; omega) _) | (refine Rows.setO ?_ (by simp [Value.ownBlock]; omega) _))) hb9)
      clear hb9; (try clear o)
      have o := hF.own; simp only [World.size_alloc, World.size_drew, World.size_setCell, List.mem_cons, List.not_mem_nil, or_false, forall_eq_or_imp, forall_eq, At, and_true, Nat.zero_add, Nat.reduceAdd, List.set_cons_zero, List.set_cons_succ] at o
      go_wp2_with fail
      refine (G1.out _).mono ?_; rintro e w3 ⟨rfl, hb9⟩
      replace hF := Fb.below (by repeat (first | assumption | apply Fb.alloc_1 | apply Fb.alloc_2 | apply Fb.alloc_3 | apply Fb.alloc_4 | apply Fb.alloc_5 | apply Fb.alloc_8 | apply Fb.drew | apply Fb.drewN | apply Fb.other)) hb9
      (try replace hV := Rows.below (by repeat (first | assumption | apply Rows.alloc | apply Rows.drew | (refine Rows.set ?_ hfr (by dsimp only; omega) _) | (refine Rows.setO ?_ (by simp [Value.ownBlock]; omega) _))) hb9)
      clear hb9; (try clear o)
      have o := hF.own; simp only [World.size_alloc, World.size_drew, World.size_setCell, List.mem_cons, List.not_mem_nil, or_false, forall_eq_or_imp, forall_eq, At, and_true, Nat.zero_add, Nat.reduceAdd, List.set_cons_zero, List.set_cons_succ] at o
      go_wp2_with fail
      refine (sRangeOk_any f b _).mono ?_; rintro e w4 ⟨rfl, hb9⟩
      replace hF := Fb.below (by repeat (first | assumption | apply Fb.alloc_1 | apply Fb.alloc_2 | apply Fb.alloc_3 | apply Fb.alloc_4 | apply Fb.alloc_5 | apply Fb.alloc_8 | apply Fb.drew | apply Fb.drewN | apply Fb.other)) hb9
      (try replace hV := Rows.below (by repeat (first | assumption | apply Rows.alloc | apply Rows.drew | (refine Rows.set ?_ hfr (by dsimp only; omega) _) | (refine Rows.setO ?_ (by simp [Value.ownBlock]; omega) _))) hb9)
      clear hb9; (try clear o)
      have o := hF.own; simp only [World.size_alloc, World.size_drew, World.size_setCell, List.mem_cons, List.not_mem_nil, or_false, forall_eq_or_imp, forall_eq, At, and_true, Nat.zero_add, Nat.reduceAdd, List.set_cons_zero, List.set_cons_succ] at o
      go_wp2
      (go_ret; exact ⟨rfl, Fb.kp (by repeat (first | assumption | apply Fb.alloc_1 | apply Fb.alloc_2 | apply Fb.alloc_3 | apply Fb.alloc_4 | apply Fb.alloc_5 | apply Fb.alloc_8 | apply Fb.drew | apply Fb.drewN | apply Fb.other))⟩)

set_option maxHeartbeats 1000000 in
theorem FnHalves_walk (a0 : Option Addr) (n0 c0 : Nat) (w : World) (h0 : Given w (.slice a0 n0 c0)) :
    Calls Try.prog 6 #[.slice a0 n0 c0] w fun e w' => e = .returned (.bool true) ∧ Below w.heap.size w w' := by
  by_cases hn0 : 1048576 < n0
  · have e0 : decide (1048576 < (n0 : Int)) = true := by simp; omega
    go_enter Try.func6, Try.ntmps6
    go_wp2
    go_ret
    exact ⟨rfl, Below.refl _ _⟩
  have e0 : decide (1048576 < (n0 : Int)) = false := by simp; omega
  have hF := Fb.start w
  go_enter Try.func6, Try.ntmps6
  go_wp2_with fail
  refine (drawHalf_any _ _ h0).mono ?_; rintro e w1 ⟨f, b, up, rfl, hS, hb1⟩
  replace hF := hF.below hb1
  clear hb1 h0
  have H1 := iRangeHalf_lit f b up
  have H3 := sRangeHalf_lit f b up
  by_cases hH : Hlf f b
  · have dh : decide (Hlf f b) = true := by simp [hH]
    have k1 := half_ok up hH
    have k2 := half_in up hH
    have hb8 : b < 8 := by have := hH.1.2.1; have := hH.2; omega
    have hs1 := sz_half hH.1.1 hb8
    have hb1 : Ytgajgjhanpnbdaa.hB f b = b + 1 := by simp [Ytgajgjhanpnbdaa.hB, hH]
    rw [dh] at H1 H3
    generalize Ytgajgjhanpnbdaa.hF f b up = f1 at *
    generalize Ytgajgjhanpnbdaa.hB f b = b1 at *
    have L0 := iRangeHalf_lit f1 b1 false
    have L1 := iRangeHalf_lit f1 b1 true
    by_cases hK : Hlf f1 b1
    · have dk : decide (Hlf f1 b1) = true := by simp [hK]
      have q1 := half_ok false hK
      have q2 := half_ok true hK
      have q3 := rin_trans (half_in false hK) k2
      have hc8 : b1 < 8 := by have := hK.1.2.1; have := hK.2; omega
      have hs2 := sz_half hK.1.1 hc8
      obtain ⟨g1, g2, g3⟩ := hF_of hK
      have q4 : ¬ RIn (Ytgajgjhanpnbdaa.hF f1 b1 false) (Ytgajgjhanpnbdaa.hB f1 b1) (Ytgajgjhanpnbdaa.hF f1 b1 true) (Ytgajgjhanpnbdaa.hB f1 b1) := by
        rintro ⟨_, _, _, h1, h2⟩
        have := sz_pos (b1 + 1)
        rw [g1, g2] at h1; omega
      have m1 : mny f b = 4 * sz (b1 + 1) := by rw [mny, if_pos hH.1, hs1, ← hb1, hs2]; omega
      have m2 : mny f1 b1 = 2 * sz (b1 + 1) := by rw [mny, if_pos k1, hs2]
      have m3 : mny (Ytgajgjhanpnbdaa.hF f1 b1 false) (Ytgajgjhanpnbdaa.hB f1 b1) = sz (b1 + 1) := by rw [mny, if_pos q1, g3]
      have m4 : mny (Ytgajgjhanpnbdaa.hF f1 b1 true) (Ytgajgjhanpnbdaa.hB f1 b1) = sz (b1 + 1) := by rw [mny, if_pos q2, g3]
      have z1 := sz_pos (b1 + 1)
      have z2 := sz_le (b1 + 1) (by have := hK.1.1; omega)
      rw [dk] at L0 L1
      generalize Ytgajgjhanpnbdaa.hF f1 b1 false = a1 at *
      generalize Ytgajgjhanpnbdaa.hF f1 b1 true = a2 at *
      generalize Ytgajgjhanpnbdaa.hB f1 b1 = c1 at *
      generalize sz (b1 + 1) = s at *
      have d1 : decide (RIn a1 c1 f b) = true := by simp [q3]
      have d2 : decide (RIn a1 c1 a2 c1) = false := by simp [q4]
      have v1 : IntKind.i64.wrap (4 * s) = 4 * s := IntWalk.i64_in _ (by omega)
      have v2 : IntKind.i64.wrap (2 * (2 * s)) = 4 * s := by rw [IntWalk.i64_in _ (by omega)]; omega
      have G1 := Lib.hid H1
      have G3 := Lib.hid H3
      have K0 := Lib.hid L0
      have K1 := Lib.hid L1
      clear H1 H3 L0 L1 hs1 hs2 g1 g2 g3 hb1 q1 q2 q3 q4 k1 k2 hH hK
      go_wp2_with fail
      refine (G3.out _).mono ?_; rintro e w2 ⟨rfl, hb9⟩
      replace hF := Fb.below (by repeat (first | assumption | apply Fb.alloc_1 | apply Fb.alloc_2 | apply Fb.alloc_3 | apply Fb.alloc_4 | apply Fb.alloc_5 | apply Fb.alloc_8 | apply Fb.drew | apply Fb.drewN | apply Fb.other)) hb9
      (try replace hV := Rows.below (by repeat (first | assumption | apply Rows.alloc | apply Rows.drew | (refine Rows.set ?_ hfr (by dsimp only; omega) _) | (refine Rows.setO ?_ (by simp [Value.ownBlock]; omega) _))) hb9)
      clear hb9; (try clear o)
      have o := hF.own; simp only [World.size_alloc, World.size_drew, World.size_setCell, List.mem_cons, List.not_mem_nil, or_false, forall_eq_or_imp, forall_eq, At, and_true, Nat.zero_add, Nat.reduceAdd, List.set_cons_zero, List.set_cons_succ] at o
      go_wp2_with fail
      refine (G1.out _).mono ?_; rintro e w3 ⟨rfl, hb9⟩
      replace hF := Fb.below (by repeat (first | assumption | apply Fb.alloc_1 | apply Fb.alloc_2 | apply Fb.alloc_3 | apply Fb.alloc_4 | apply Fb.alloc_5 | apply Fb.alloc_8 | apply Fb.drew | apply Fb.drewN | apply Fb.other)) hb9
      (try replace hV := Rows.below (by repeat (first | assumption | apply Rows.alloc | apply Rows.drew | (refine Rows.set ?_ hfr (by dsimp only; omega) _) | (refine Rows.setO ?_ (by simp [Value.ownBlock]; omega) _))) hb9)
      clear hb9; (try clear o)
      have o := hF.own; simp only [World.size_alloc, World.size_drew, World.size_setCell, List.mem_cons, List.not_mem_nil, or_false, forall_eq_or_imp, forall_eq, At, and_true, Nat.zero_add, Nat.reduceAdd, List.set_cons_zero, List.set_cons_succ] at o
      go_wp2_with fail
      refine (K0.out _).mono ?_; rintro e w4 ⟨rfl, hb9⟩
      replace hF := Fb.below (by repeat (first | assumption | apply Fb.alloc_1 | apply Fb.alloc_2 | apply Fb.alloc_3 | apply Fb.alloc_4 | apply Fb.alloc_5 | apply Fb.alloc_8 | apply Fb.drew | apply Fb.drewN | apply Fb.other)) hb9
      (try replace hV := Rows.below (by repeat (first | assumption | apply Rows.alloc | apply Rows.drew | (refine Rows.set ?_ hfr (by dsimp only; omega) _) | (refine Rows.setO ?_ (by simp [Value.ownBlock]; omega) _))) hb9)
      clear hb9; (try clear o)
      have o := hF.own; simp only [World.size_alloc, World.size_drew, World.size_setCell, List.mem_cons, List.not_mem_nil, or_false, forall_eq_or_imp, forall_eq, At, and_true, Nat.zero_add, Nat.reduceAdd, List.set_cons_zero, List.set_cons_succ] at o
      go_wp2_with fail
      refine (K1.out _).mono ?_; rintro e w5 ⟨rfl, hb9⟩
      replace hF := Fb.below (by repeat (first | assumption | apply Fb.alloc_1 | apply Fb.alloc_2 | apply Fb.alloc_3 | apply Fb.alloc_4 | apply Fb.alloc_5 | apply Fb.alloc_8 | apply Fb.drew | apply Fb.drewN | apply Fb.other)) hb9
      (try replace hV := Rows.below (by repeat (first | assumption | apply Rows.alloc | apply Rows.drew | (refine Rows.set ?_ hfr (by dsimp only; omega) _) | (refine Rows.setO ?_ (by simp [Value.ownBlock]; omega) _))) hb9)
      clear hb9; (try clear o)
      have o := hF.own; simp only [World.size_alloc, World.size_drew, World.size_setCell, List.mem_cons, List.not_mem_nil, or_false, forall_eq_or_imp, forall_eq, At, and_true, Nat.zero_add, Nat.reduceAdd, List.set_cons_zero, List.set_cons_succ] at o
      go_upto_region 10 with (fail)
      replace hF := (Fb.alloc_2 (v0 := .int .i64 a2) (v1 := .int .i64 c1) (T := 24) hF)
      have oc := fun x : Cl _ (w5.alloc (.cells #[.int .i64 a2, .int .i64 c1] 24)) => (Fb.cl hF x).own; simp only [World.size_alloc, World.size_drew, World.size_setCell, List.mem_cons, List.not_mem_nil, or_false, forall_eq_or_imp, forall_eq, At, and_true, Nat.zero_add, Nat.reduceAdd, List.set_cons_zero, List.set_cons_succ] at oc
      first | refine wp_region_new (by kernel_rfl) (by kernel_rfl) ?_ | refine wp_region_lex ?_
      repeat (any_goals (first | go_big_quiet_step ((first | (go_at_call 23; exact Calls.cl (iRangeMany_m _ _ _)) | (go_at_call 20; exact Calls.cl (iRangeIn_any _ _ _ _ _)))) | (refine wpQuiet_step (fun K hK => ?_); go_simp; split <;> (rename_i hg; refine hK _ ?_; clear hK K; simp only [hg, decide_true, decide_false]))))
      all_goals (refine wpQuiet_nil ?_; intro x)
      go_wp2
      go_ret
      exact ⟨rfl, (hF.cl x).kp⟩
    · have dk : decide (Hlf f1 b1) = false := by simp [hK]
      have m1 : mny f b = 2 * sz (b + 1) := by rw [mny, if_pos hH.1, hs1]
      have m2 : mny f1 b1 = sz (b + 1) := by rw [mny, if_pos k1, hb1]
      have z1 := sz_pos (b + 1)
      have z2 := sz_le (b + 1) (by have := hH.1.1; omega)
      rw [dk] at L0 L1
      generalize Ytgajgjhanpnbdaa.hF f1 b1 false = a1 at *
      generalize Ytgajgjhanpnbdaa.hF f1 b1 true = a2 at *
      generalize Ytgajgjhanpnbdaa.hB f1 b1 = c1 at *
      generalize sz (b + 1) = s at *
      have v2 : IntKind.i64.wrap (2 * s) = 2 * s := IntWalk.i64_in _ (by omega)
      have G1 := Lib.hid H1
      have G3 := Lib.hid H3
      have K0 := Lib.hid L0
      have K1 := Lib.hid L1
      clear H1 H3 L0 L1 hs1 hb1 k1 k2 hH hK
      go_wp2_with fail
      refine (G3.out _).mono ?_; rintro e w2 ⟨rfl, hb9⟩
      replace hF := Fb.below (by repeat (first | assumption | apply Fb.alloc_1 | apply Fb.alloc_2 | apply Fb.alloc_3 | apply Fb.alloc_4 | apply Fb.alloc_5 | apply Fb.alloc_8 | apply Fb.drew | apply Fb.drewN | apply Fb.other)) hb9
      (try replace hV := Rows.below (by repeat (first | assumption | apply Rows.alloc | apply Rows.drew | (refine Rows.set ?_ hfr (by dsimp only; omega) _) | (refine Rows.setO ?_ (by simp [Value.ownBlock]; omega) _))) hb9)
      clear hb9; (try clear o)
      have o := hF.own; simp only [World.size_alloc, World.size_drew, World.size_setCell, List.mem_cons, List.not_mem_nil, or_false, forall_eq_or_imp, forall_eq, At, and_true, Nat.zero_add, Nat.reduceAdd, List.set_cons_zero, List.set_cons_succ] at o
      go_wp2_with fail
      refine (G1.out _).mono ?_; rintro e w3 ⟨rfl, hb9⟩
      replace hF := Fb.below (by repeat (first | assumption | apply Fb.alloc_1 | apply Fb.alloc_2 | apply Fb.alloc_3 | apply Fb.alloc_4 | apply Fb.alloc_5 | apply Fb.alloc_8 | apply Fb.drew | apply Fb.drewN | apply Fb.other)) hb9
      (try replace hV := Rows.below (by repeat (first | assumption | apply Rows.alloc | apply Rows.drew | (refine Rows.set ?_ hfr (by dsimp only; omega) _) | (refine Rows.setO ?_ (by simp [Value.ownBlock]; omega) _))) hb9)
      clear hb9; (try clear o)
      have o := hF.own; simp only [World.size_alloc, World.size_drew, World.size_setCell, List.mem_cons, List.not_mem_nil, or_false, forall_eq_or_imp, forall_eq, At, and_true, Nat.zero_add, Nat.reduceAdd, List.set_cons_zero, List.set_cons_succ] at o
      go_wp2_with fail
      refine (K0.out _).mono ?_; rintro e w4 ⟨rfl, hb9⟩
      replace hF := Fb.below (by repeat (first | assumption | apply Fb.alloc_1 | apply Fb.alloc_2 | apply Fb.alloc_3 | apply Fb.alloc_4 | apply Fb.alloc_5 | apply Fb.alloc_8 | apply Fb.drew | apply Fb.drewN | apply Fb.other)) hb9
      (try replace hV := Rows.below (by repeat (first | assumption | apply Rows.alloc | apply Rows.drew | (refine Rows.set ?_ hfr (by dsimp only; omega) _) | (refine Rows.setO ?_ (by simp [Value.ownBlock]; omega) _))) hb9)
      clear hb9; (try clear o)
      have o := hF.own; simp only [World.size_alloc, World.size_drew, World.size_setCell, List.mem_cons, List.not_mem_nil, or_false, forall_eq_or_imp, forall_eq, At, and_true, Nat.zero_add, Nat.reduceAdd, List.set_cons_zero, List.set_cons_succ] at o
      go_wp2_with fail
      refine (K1.out _).mono ?_; rintro e w5 ⟨rfl, hb9⟩
      replace hF := Fb.below (by repeat (first | assumption | apply Fb.alloc_1 | apply Fb.alloc_2 | apply Fb.alloc_3 | apply Fb.alloc_4 | apply Fb.alloc_5 | apply Fb.alloc_8 | apply Fb.drew | apply Fb.drewN | apply Fb.other)) hb9
      (try replace hV := Rows.below (by repeat (first | assumption | apply Rows.alloc | apply Rows.drew | (refine Rows.set ?_ hfr (by dsimp only; omega) _) | (refine Rows.setO ?_ (by simp [Value.ownBlock]; omega) _))) hb9)
      clear hb9; (try clear o)
      have o := hF.own; simp only [World.size_alloc, World.size_drew, World.size_setCell, List.mem_cons, List.not_mem_nil, or_false, forall_eq_or_imp, forall_eq, At, and_true, Nat.zero_add, Nat.reduceAdd, List.set_cons_zero, List.set_cons_succ] at o
      go_upto_region 10 with (fail)
      replace hF := (Fb.alloc_2 (v0 := .int .i64 a2) (v1 := .int .i64 c1) (T := 24) hF)
      have oc := fun x : Cl _ (w5.alloc (.cells #[.int .i64 a2, .int .i64 c1] 24)) => (Fb.cl hF x).own; simp only [World.size_alloc, World.size_drew, World.size_setCell, List.mem_cons, List.not_mem_nil, or_false, forall_eq_or_imp, forall_eq, At, and_true, Nat.zero_add, Nat.reduceAdd, List.set_cons_zero, List.set_cons_succ] at oc
      first | refine wp_region_new (by kernel_rfl) (by kernel_rfl) ?_ | refine wp_region_lex ?_
      repeat (any_goals (first | go_big_quiet_step ((first | (go_at_call 23; exact Calls.cl (iRangeMany_m _ _ _)) | (go_at_call 20; exact Calls.cl (iRangeIn_any _ _ _ _ _)))) | (refine wpQuiet_step (fun K hK => ?_); go_simp; split <;> (rename_i hg; refine hK _ ?_; clear hK K; simp only [hg, decide_true, decide_false]))))
      all_goals (refine wpQuiet_nil ?_; intro x)
      go_wp2
      go_ret
      exact ⟨rfl, (hF.cl x).kp⟩
  · have dh : decide (Hlf f b) = false := by simp [hH]
    have hz : Ytgajgjhanpnbdaa.hF f b up = 0 := by simp [Ytgajgjhanpnbdaa.hF, hH]
    have hz' : Ytgajgjhanpnbdaa.hB f b = 0 := by simp [Ytgajgjhanpnbdaa.hB, hH]
    rw [dh, hz, hz'] at H1 H3
    have G1 := Lib.hid H1
    have G3 := Lib.hid H3
    clear H1 H3 hz hz'
    go_wp2_with fail
    refine (G3.out _).mono ?_; rintro e w2 ⟨rfl, hb9⟩
    replace hF := Fb.below (by repeat (first | assumption | apply Fb.alloc_1 | apply Fb.alloc_2 | apply Fb.alloc_3 | apply Fb.alloc_4 | apply Fb.alloc_5 | apply Fb.alloc_8 | apply Fb.drew | apply Fb.drewN | apply Fb.other)) hb9
    (try replace hV := Rows.below (by repeat (first | assumption | apply Rows.alloc | apply Rows.drew | (refine Rows.set ?_ hfr (by dsimp only; omega) _) | (refine Rows.setO ?_ (by simp [Value.ownBlock]; omega) _))) hb9)
    clear hb9; (try clear o)
    have o := hF.own; simp only [World.size_alloc, World.size_drew, World.size_setCell, List.mem_cons, List.not_mem_nil, or_false, forall_eq_or_imp, forall_eq, At, and_true, Nat.zero_add, Nat.reduceAdd, List.set_cons_zero, List.set_cons_succ] at o
    go_wp2_with fail
    refine (G1.out _).mono ?_; rintro e w3 ⟨rfl, hb9⟩
    replace hF := Fb.below (by repeat (first | assumption | apply Fb.alloc_1 | apply Fb.alloc_2 | apply Fb.alloc_3 | apply Fb.alloc_4 | apply Fb.alloc_5 | apply Fb.alloc_8 | apply Fb.drew | apply Fb.drewN | apply Fb.other)) hb9
    (try replace hV := Rows.below (by repeat (first | assumption | apply Rows.alloc | apply Rows.drew | (refine Rows.set ?_ hfr (by dsimp only; omega) _) | (refine Rows.setO ?_ (by simp [Value.ownBlock]; omega) _))) hb9)
    clear hb9; (try clear o)
    have o := hF.own; simp only [World.size_alloc, World.size_drew, World.size_setCell, List.mem_cons, List.not_mem_nil, or_false, forall_eq_or_imp, forall_eq, At, and_true, Nat.zero_add, Nat.reduceAdd, List.set_cons_zero, List.set_cons_succ] at o
    go_wp2
    (go_ret; exact ⟨rfl, Fb.kp (by repeat (first | assumption | apply Fb.alloc_1 | apply Fb.alloc_2 | apply Fb.alloc_3 | apply Fb.alloc_4 | apply Fb.alloc_5 | apply Fb.alloc_8 | apply Fb.drew | apply Fb.drewN | apply Fb.other))⟩)
end Go.Proofs.Ytgajgjhanpnbdaa
