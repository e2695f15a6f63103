/- A house, and a range, often held. -/
import Derived.Test.YtgajgjhanpnbdaaHc
set_option linter.unusedSimpArgs false
set_option linter.unusedVariables false
namespace Go.Proofs.Ytgajgjhanpnbdaa
open Go.RowKit

set_option maxHeartbeats 1000000 in
theorem drawHoldHas_any (v0 : Value) (w : World) (h : Given w v0) :
    Calls Try.prog 31 #[v0] w fun e w' => ∃ (v : Value) (L : List HoldD) (h f b : Int), e = .returned (.tuple #[v, .int .i64 h, .agg #[.int .i64 f, .int .i64 b]]) ∧ Rows w' v 3 HoldD.enc L ∧ L.length ≤ 4 ∧ Sm f b ∧ Below w.heap.size w w' := by
  have hF := (Fr.start (w.heap.size + 1) w).alloc' [.int .i64 0, .int .i64 0] 24 (by omega)
  have hG := h.alloc (.cells #[.int .i64 0, .int .i64 0] 24)
  go_enter Try.func31, Try.ntmps31
  go_wp2_with fail
  refine (open_any v0 _ hG).mono ?_; rintro e w1 ⟨rfl, hR, hb1⟩
  simp only [World.size_alloc] at hR
  replace hF := hF.below hb1
  clear h hG
  go_wp2_with fail
  refine (l92Holds_any _ 0 _ hR (by omega)).mono ?_; rintro e w2 ⟨v, L, rfl, hV, hfr, hL, hS, ⟨k2, hk2, hR2⟩, hK2⟩
  replace hF := hF.call hK2
  replace hfr : Fresh (w.heap.size + 2) v := hfr.mono (by have := hb1.size; simp at this; have := hR.lt; omega)
  replace hR := hR2
  generalize hr : w.heap.size + 1 = r at *
  have hfl : r < w.heap.size + 2 := by omega
  clear hR2 hK2 hb1
  have hlt2 := hR.lt
  have hFr := hF
  by_cases hpos : 0 < L.length
  · obtain ⟨n, cap, hn, hnc, hcap, ⟨hn0, ao, rfl⟩ | ⟨hn0, b0, off, rfl, -⟩⟩ := hV.cases
    · exfalso; have := hn.out; omega
    have hn4 : n ≤ 4 := by have := hn.out; omega
    have hb0 := hV.lt (fun _ => by simp [HoldD.enc]) hpos b0 rfl
    have hnp : 0 < (n : Int) := by omega
    go_wp2_with fail
    refine (pick_any r _ _ _ hR (by omega) (by omega) (by omega)).mono ?_; rintro e w3 ⟨v3, rfl, u3, l3, hR3, hK3⟩
    replace hF := hF.call hK3
    replace hV := hV.kp hK3 hfr hfl
    replace hR := hR3
    have hs3 := hK3.size
    clear hR3 hK3
    by_cases h3 : 0 < v3
    · go_wp2_with fail
      refine (pick_any r _ _ _ hR (by omega) (by omega) (by omega)).mono ?_; rintro e w4 ⟨v4, rfl, u4, l4, hR4, hK4⟩
      replace hF := hF.call hK4
      replace hV := hV.kp hK4 hfr hfl
      replace hR := hR4
      have hs4 := hK4.size
      clear hR4 hK4
      obtain ⟨k4, rfl⟩ := Int.eq_ofNat_of_zero_le u4
      obtain ⟨x, hx⟩ := get_of hn.out (show k4 < n by omega)
      have HX := Lib.hid hx
      have c0 := hV.get hx (j := 0) rfl
      have c1 := hV.get hx (j := 1) rfl
      have c2 := hV.get hx (j := 2) rfl
      have hsx := hS x (List.mem_of_getElem? hx)
      clear hx
      obtain ⟨xh, xf, xb⟩ := x
      dsimp only [Nat.add_zero] at c0 c1 c2
      obtain ⟨s1, s2, s3, s4, s5, s6⟩ := hsx
      dsimp only at s1 s2 s3 s4 s5 s6
      have n4r : w4.heap.size ≠ r := by have := hR.lt; omega
      have hbd := half_bd xf xb
      replace hF := hF.alloc [.int .i64 xh, .int .i64 xf, .int .i64 xb] 47 hR.lt
      replace hR := hR.alloc (.cells #[.int .i64 xh, .int .i64 xf, .int .i64 xb] 47)
      replace hV := hV.alloc (.cells #[.int .i64 xh, .int .i64 xf, .int .i64 xb] 47)
      go_upto_region 5 with (fail)
      clear c0 c1 c2
      go_cut [8, 9] (fun y ok wx => ∃ (yb k'' : Nat) (c d : Int) (bo : Bool), y = .pointer (some ⟨yb, 0, none⟩) ∧ ok = .bool bo ∧ Sm c d ∧ k'' ≤ k2 + 10 ∧ Rd wx r k'' ∧ Rows wx (.slice (some ⟨b0, off, none⟩) n cap) 3 HoldD.enc L ∧ w4.heap.size < yb ∧ Fr r w wx [(yb, [.int .i64 c, .int .i64 d]), (w4.heap.size, [.int .i64 xh, .int .i64 xf, .int .i64 xb]), (w.heap.size, [.int .i64 0, .int .i64 0])])
      case first =>
        have S0 : (w4.alloc (.cells #[.int .i64 xh, .int .i64 xf, .int .i64 xb] 47)).drew.cell? ⟨w4.heap.size, 1, none⟩ = some (.int .i64 xf) ∧ (w4.alloc (.cells #[.int .i64 xh, .int .i64 xf, .int .i64 xb] 47)).drew.cell? ⟨w4.heap.size, 2, none⟩ = some (.int .i64 xb) := by simp
        have hz4 : w4.heap.size < (w4.alloc (.cells #[.int .i64 xh, .int .i64 xf, .int .i64 xb] 47)).drew.heap.size := by simp
        clear S0 hz4
        have o := hF.own; simp only [World.size_alloc, World.size_drew, World.size_setCell, List.mem_cons, List.not_mem_nil, or_false, forall_eq_or_imp, forall_eq, At, and_true, Nat.zero_add, Nat.reduceAdd, List.set_cons_zero, List.set_cons_succ] at o
        go_region_with (first | (go_at_call 45; go_must (refine (pick_any r _ _ _ (by repeat (first | assumption | apply Rd.alloc | apply Rd.drew | apply Rd.drewN | (refine Rd.setCell ?_ (by dsimp only; omega) _) | apply Rd.setCell | ((try dsimp only); omega))) (by omega) (by omega) (by omega)).mono ?_); rintro e wx ⟨vx, rfl, ux, lx, hRx, hKx⟩; replace hF := Fr.call (by repeat (first | assumption | apply Fr.drew | apply Fr.drewN | apply Fr.alloc_1 | apply Fr.alloc_2 | apply Fr.alloc_3 | apply Fr.alloc_4 | apply Fr.alloc_5 | apply Fr.alloc_8 | apply Fr.set | (simp only [List.length_cons, List.length_nil, List.length_set]; omega) | (simp only [List.mem_cons, List.not_mem_nil, or_false, forall_eq_or_imp, forall_eq, ne_eq]; omega) | (simp only [World.size_alloc, World.size_setCell, World.size_drew]; omega) | omega)) hKx; replace hR := hRx; (try replace hV := Rows.kp (by repeat (first | assumption | apply Rows.alloc | apply Rows.drew | (refine Rows.set ?_ hfr (by dsimp only; omega) _) | (refine Rows.setO ?_ (by simp [Value.ownBlock]; omega) _))) hKx hfr hfl); have hsx := hKx.size; (try simp only [World.size_alloc, World.size_setCell, World.size_drew] at hsx); clear hRx hKx; (try clear o); have o := hF.own; simp only [World.size_alloc, World.size_drew, World.size_setCell, List.mem_cons, List.not_mem_nil, or_false, forall_eq_or_imp, forall_eq, At, and_true, Nat.zero_add, Nat.reduceAdd, List.set_cons_zero, List.set_cons_succ] at o) | (go_at_call 16; go_must (refine (sRangeHalf_lit _ _ _ _).mono ?_); rintro e w7 ⟨rfl, hb7⟩; replace hF := Fr.below (by repeat (first | assumption | apply Fr.drew | apply Fr.drewN | apply Fr.alloc_1 | apply Fr.alloc_2 | apply Fr.alloc_3 | apply Fr.alloc_4 | apply Fr.alloc_5 | apply Fr.alloc_8 | apply Fr.set | (simp only [List.length_cons, List.length_nil, List.length_set]; omega) | (simp only [List.mem_cons, List.not_mem_nil, or_false, forall_eq_or_imp, forall_eq, ne_eq]; omega) | (simp only [World.size_alloc, World.size_setCell, World.size_drew]; omega) | omega)) hb7; replace hR := Rd.below (by repeat (first | assumption | apply Rd.alloc | apply Rd.drew | apply Rd.drewN | (refine Rd.setCell ?_ (by dsimp only; omega) _) | apply Rd.setCell | ((try dsimp only); omega))) hb7 (by have := hR.lt; simp; omega); (try replace hV := Rows.below (by repeat (first | assumption | apply Rows.alloc | apply Rows.drew | (refine Rows.set ?_ hfr (by dsimp only; omega) _) | (refine Rows.setO ?_ (by simp [Value.ownBlock]; omega) _))) hb7); have hs7 := hb7.size; (try simp only [World.size_alloc, World.size_setCell, World.size_drew] at hs7); clear hb7 o; have o := hF.own; simp only [World.size_alloc, World.size_drew, World.size_setCell, List.mem_cons, List.not_mem_nil, or_false, forall_eq_or_imp, forall_eq, At, and_true, Nat.zero_add, Nat.reduceAdd, List.set_cons_zero, List.set_cons_succ] at o))
        all_goals (try go_wp2)
        all_goals go_meet
        all_goals (try simp only [World.size_alloc, World.size_drew] at hF)
        all_goals first
          | exact ⟨_, k2 + 1 + 1 + 1, _, _, _, rfl, rfl, hbd _, by omega, (by repeat (first | assumption | apply Rd.alloc | apply Rd.drew | apply Rd.drewN | (refine Rd.setCell ?_ (by dsimp only; omega) _) | apply Rd.setCell | ((try dsimp only); omega))), (by repeat (first | assumption | apply Rows.alloc | apply Rows.drew | (refine Rows.set ?_ hfr (by dsimp only; omega) _) | (refine Rows.setO ?_ (by simp [Value.ownBlock]; omega) _))), by omega, hF.alloc [_, _] _ (by have := hR.lt; omega)⟩
          | exact ⟨_, k2 + 1 + 1 + 1, _, _, _, rfl, rfl, hbd _, by omega, (by repeat (first | assumption | apply Rd.alloc | apply Rd.drew | apply Rd.drewN | (refine Rd.setCell ?_ (by dsimp only; omega) _) | apply Rd.setCell | ((try dsimp only); omega))), (by repeat (first | assumption | apply Rows.alloc | apply Rows.drew | (refine Rows.set ?_ hfr (by dsimp only; omega) _) | (refine Rows.setO ?_ (by simp [Value.ownBlock]; omega) _))), by first | omega | (simp only [World.size_alloc]; omega), (hF.set 0 _ (by simp) (by simp; omega)).set 1 _ (by simp) (by simp; omega)⟩
      case rest =>
        obtain ⟨yb, k5, c, d, bo, rfl, rfl, sC, hk5, hR5, hV5, hyb, hF5⟩ := hcut
        clear hR hV hF
        have hR := hR5
        have hV := hV5
        have hF := hF5
        have hltr := hR.lt
        clear hR5 hV5 hF5
        have o := hF.own; simp only [World.size_alloc, World.size_drew, World.size_setCell, List.mem_cons, List.not_mem_nil, or_false, forall_eq_or_imp, forall_eq, At, and_true, Nat.zero_add, Nat.reduceAdd, List.set_cons_zero, List.set_cons_succ] at o
        have hbr : b0 ≠ r := by have := hfr b0 rfl; omega
        have hbw : b0 ≠ w.heap.size := by have := hfr b0 rfl; omega
        cases bo
        · go_wp2
          go_region
          go_wp2
          exact bodyPost_ret (v := .tuple #[.slice (some ⟨b0, off, none⟩) n cap, .int .i64 xh, .agg #[.int .i64 xf, .int .i64 xb]]) (by simp [results, Try.results31, go_sem, o]) rfl ⟨_, L, xh, xf, xb, rfl, (by repeat (first | assumption | apply Rows.alloc | apply Rows.drew | (refine Rows.set ?_ hfr (by dsimp only; omega) _) | (refine Rows.setO ?_ (by simp [Value.ownBlock]; omega) _))), hL, ⟨s3, s4, s5, s6⟩, by have kp := hF.kp; repeat (first | (refine Below.setCell ?_ (by dsimp only; omega) _) | apply Below.drew | exact kp.below (by omega) (Nat.le_refl _))⟩
        · go_wp2_with (go_at_call 45; go_must (refine (pick_any r _ _ _ (by repeat (first | assumption | apply Rd.alloc | apply Rd.drew | apply Rd.drewN | (refine Rd.setCell ?_ (by dsimp only; omega) _) | apply Rd.setCell | ((try dsimp only); omega))) (by omega) (by omega) (by omega)).mono ?_); rintro e wx ⟨vx, rfl, ux, lx, hRx, hKx⟩; replace hF := Fr.call (by repeat (first | assumption | apply Fr.drew | apply Fr.drewN | apply Fr.alloc_1 | apply Fr.alloc_2 | apply Fr.alloc_3 | apply Fr.alloc_4 | apply Fr.alloc_5 | apply Fr.alloc_8 | apply Fr.set | (simp only [List.length_cons, List.length_nil, List.length_set]; omega) | (simp only [List.mem_cons, List.not_mem_nil, or_false, forall_eq_or_imp, forall_eq, ne_eq]; omega) | (simp only [World.size_alloc, World.size_setCell, World.size_drew]; omega) | omega)) hKx; replace hR := hRx; (try replace hV := Rows.kp (by repeat (first | assumption | apply Rows.alloc | apply Rows.drew | (refine Rows.set ?_ hfr (by dsimp only; omega) _) | (refine Rows.setO ?_ (by simp [Value.ownBlock]; omega) _))) hKx hfr hfl); have hsx := hKx.size; (try simp only [World.size_alloc, World.size_setCell, World.size_drew] at hsx); clear hRx hKx; (try clear o); have o := hF.own; simp only [World.size_alloc, World.size_drew, World.size_setCell, List.mem_cons, List.not_mem_nil, or_false, forall_eq_or_imp, forall_eq, At, and_true, Nat.zero_add, Nat.reduceAdd, List.set_cons_zero, List.set_cons_succ] at o)
          all_goals go_region
          all_goals go_wp2
          · exact bodyPost_ret (v := .tuple #[.slice (some ⟨b0, off, none⟩) n cap, .int .i64 xh, .agg #[.int .i64 c, .int .i64 d]]) (by simp [results, Try.results31, go_sem, o]) rfl ⟨_, L, xh, c, d, rfl, (by repeat (first | assumption | apply Rows.alloc | apply Rows.drew | (refine Rows.set ?_ hfr (by dsimp only; omega) _) | (refine Rows.setO ?_ (by simp [Value.ownBlock]; omega) _))), hL, sC, (by have kp := hF.kp; repeat (first | (refine Below.setCell ?_ (by dsimp only; omega) _) | apply Below.drew | (refine Below.alloc ?_ (by first | (simp only [World.size_alloc, World.size_setCell, World.size_drew]; omega) | omega) _) | exact kp.below (by omega) (Nat.le_refl _)))⟩
          · exact bodyPost_ret (v := .tuple #[.slice (some ⟨b0, off, none⟩) n cap, .int .i64 xh, .agg #[.int .i64 xf, .int .i64 xb]]) (by simp [results, Try.results31, go_sem, o]) rfl ⟨_, L, xh, xf, xb, rfl, (by repeat (first | assumption | apply Rows.alloc | apply Rows.drew | (refine Rows.set ?_ hfr (by dsimp only; omega) _) | (refine Rows.setO ?_ (by simp [Value.ownBlock]; omega) _))), hL, ⟨s3, s4, s5, s6⟩, (by have kp := hF.kp; repeat (first | (refine Below.setCell ?_ (by dsimp only; omega) _) | apply Below.drew | (refine Below.alloc ?_ (by first | (simp only [World.size_alloc, World.size_setCell, World.size_drew]; omega) | omega) _) | exact kp.below (by omega) (Nat.le_refl _)))⟩
    · obtain rfl : v3 = 0 := by omega
      have hbr : b0 ≠ r := by have := hfr b0 rfl; omega
      have hbw : b0 ≠ w.heap.size := by have := hfr b0 rfl; omega
      have o := hF.own; simp only [World.size_alloc, World.size_drew, World.size_setCell, List.mem_cons, List.not_mem_nil, or_false, forall_eq_or_imp, forall_eq, At, and_true, Nat.zero_add, Nat.reduceAdd, List.set_cons_zero, List.set_cons_succ] at o
      go_wp2_with (first | (go_at_call 45; go_must (refine (pick_any r _ _ _ (by repeat (first | assumption | apply Rd.alloc | apply Rd.drew | apply Rd.drewN | (refine Rd.setCell ?_ (by dsimp only; omega) _) | apply Rd.setCell | ((try dsimp only); omega))) (by omega) (by omega) (by omega)).mono ?_); rintro e wx ⟨vx, rfl, ux, lx, hRx, hKx⟩; replace hF := Fr.call (by repeat (first | assumption | apply Fr.drew | apply Fr.drewN | apply Fr.alloc_1 | apply Fr.alloc_2 | apply Fr.alloc_3 | apply Fr.alloc_4 | apply Fr.alloc_5 | apply Fr.alloc_8 | apply Fr.set | (simp only [List.length_cons, List.length_nil, List.length_set]; omega) | (simp only [List.mem_cons, List.not_mem_nil, or_false, forall_eq_or_imp, forall_eq, ne_eq]; omega) | (simp only [World.size_alloc, World.size_setCell, World.size_drew]; omega) | omega)) hKx; replace hR := hRx; (try replace hV := Rows.kp (by repeat (first | assumption | apply Rows.alloc | apply Rows.drew | (refine Rows.set ?_ hfr (by dsimp only; omega) _) | (refine Rows.setO ?_ (by simp [Value.ownBlock]; omega) _))) hKx hfr hfl); have hsx := hKx.size; (try simp only [World.size_alloc, World.size_setCell, World.size_drew] at hsx); clear hRx hKx; (try clear o); have o := hF.own; simp only [World.size_alloc, World.size_drew, World.size_setCell, List.mem_cons, List.not_mem_nil, or_false, forall_eq_or_imp, forall_eq, At, and_true, Nat.zero_add, Nat.reduceAdd, List.set_cons_zero, List.set_cons_succ] at o) | (go_at_call 44; go_must (refine (l91Range_any r _ _ (by repeat (first | assumption | apply Rd.alloc | apply Rd.drew | apply Rd.drewN | (refine Rd.setCell ?_ (by dsimp only; omega) _) | apply Rd.setCell | ((try dsimp only); omega))) (by omega)).mono ?_); rintro e wx ⟨fx, bx, rfl, flx, fhx, blx, bhx, ⟨kx, hkx, hRx⟩, hKx⟩; replace hF := Fr.call (by repeat (first | assumption | apply Fr.drew | apply Fr.drewN | apply Fr.alloc_1 | apply Fr.alloc_2 | apply Fr.alloc_3 | apply Fr.alloc_4 | apply Fr.alloc_5 | apply Fr.alloc_8 | apply Fr.set | (simp only [List.length_cons, List.length_nil, List.length_set]; omega) | (simp only [List.mem_cons, List.not_mem_nil, or_false, forall_eq_or_imp, forall_eq, ne_eq]; omega) | (simp only [World.size_alloc, World.size_setCell, World.size_drew]; omega) | omega)) hKx; replace hR := hRx; (try replace hV := Rows.kp (by repeat (first | assumption | apply Rows.alloc | apply Rows.drew | (refine Rows.set ?_ hfr (by dsimp only; omega) _) | (refine Rows.setO ?_ (by simp [Value.ownBlock]; omega) _))) hKx hfr hfl); have hsx := hKx.size; (try simp only [World.size_alloc, World.size_setCell, World.size_drew] at hsx); clear hRx hKx; (try clear o); have o := hF.own; simp only [World.size_alloc, World.size_drew, World.size_setCell, List.mem_cons, List.not_mem_nil, or_false, forall_eq_or_imp, forall_eq, At, and_true, Nat.zero_add, Nat.reduceAdd, List.set_cons_zero, List.set_cons_succ] at o))
      exact bodyPost_ret (v := .tuple #[.slice (some ⟨b0, off, none⟩) n cap, .int .i64 vx, .agg #[.int .i64 fx, .int .i64 bx]]) (by simp [results, Try.results31, go_sem, o]) rfl ⟨_, L, vx, fx, bx, rfl, (by repeat (first | assumption | apply Rows.alloc | apply Rows.drew | (refine Rows.set ?_ hfr (by dsimp only; omega) _) | (refine Rows.setO ?_ (by simp [Value.ownBlock]; omega) _))), hL, ⟨by omega, by omega, by omega, by omega⟩, (by have kp := hF.kp; repeat (first | (refine Below.setCell ?_ (by dsimp only; omega) _) | apply Below.drew | (refine Below.alloc ?_ (by first | (simp only [World.size_alloc, World.size_setCell, World.size_drew]; omega) | omega) _) | exact kp.below (by omega) (Nat.le_refl _)))⟩
  · obtain ⟨n, cap, hn, hnc, hcap, ⟨hn0, ao, rfl⟩ | ⟨hn0, b0, off, rfl, -⟩⟩ := hV.cases
    · obtain rfl : n = 0 := by omega
      have o := hF.own; simp only [World.size_alloc, World.size_drew, World.size_setCell, List.mem_cons, List.not_mem_nil, or_false, forall_eq_or_imp, forall_eq, At, and_true, Nat.zero_add, Nat.reduceAdd, List.set_cons_zero, List.set_cons_succ] at o
      have hL0 : L = [] := List.eq_nil_of_length_eq_zero (by omega)
      have HL := Lib.hid hL0
      clear hL0
      go_wp2_with (first | (go_at_call 45; go_must (refine (pick_any r _ _ _ (by repeat (first | assumption | apply Rd.alloc | apply Rd.drew | apply Rd.drewN | (refine Rd.setCell ?_ (by dsimp only; omega) _) | apply Rd.setCell | ((try dsimp only); omega))) (by omega) (by omega) (by omega)).mono ?_); rintro e wx ⟨vx, rfl, ux, lx, hRx, hKx⟩; replace hF := Fr.call (by repeat (first | assumption | apply Fr.drew | apply Fr.drewN | apply Fr.alloc_1 | apply Fr.alloc_2 | apply Fr.alloc_3 | apply Fr.alloc_4 | apply Fr.alloc_5 | apply Fr.alloc_8 | apply Fr.set | (simp only [List.length_cons, List.length_nil, List.length_set]; omega) | (simp only [List.mem_cons, List.not_mem_nil, or_false, forall_eq_or_imp, forall_eq, ne_eq]; omega) | (simp only [World.size_alloc, World.size_setCell, World.size_drew]; omega) | omega)) hKx; replace hR := hRx; (try replace hV := Rows.kp (by repeat (first | assumption | apply Rows.alloc | apply Rows.drew | (refine Rows.set ?_ hfr (by dsimp only; omega) _) | (refine Rows.setO ?_ (by simp [Value.ownBlock]; omega) _))) hKx hfr hfl); have hsx := hKx.size; (try simp only [World.size_alloc, World.size_setCell, World.size_drew] at hsx); clear hRx hKx; (try clear o); have o := hF.own; simp only [World.size_alloc, World.size_drew, World.size_setCell, List.mem_cons, List.not_mem_nil, or_false, forall_eq_or_imp, forall_eq, At, and_true, Nat.zero_add, Nat.reduceAdd, List.set_cons_zero, List.set_cons_succ] at o) | (go_at_call 44; go_must (refine (l91Range_any r _ _ (by repeat (first | assumption | apply Rd.alloc | apply Rd.drew | apply Rd.drewN | (refine Rd.setCell ?_ (by dsimp only; omega) _) | apply Rd.setCell | ((try dsimp only); omega))) (by omega)).mono ?_); rintro e wx ⟨fx, bx, rfl, flx, fhx, blx, bhx, ⟨kx, hkx, hRx⟩, hKx⟩; replace hF := Fr.call (by repeat (first | assumption | apply Fr.drew | apply Fr.drewN | apply Fr.alloc_1 | apply Fr.alloc_2 | apply Fr.alloc_3 | apply Fr.alloc_4 | apply Fr.alloc_5 | apply Fr.alloc_8 | apply Fr.set | (simp only [List.length_cons, List.length_nil, List.length_set]; omega) | (simp only [List.mem_cons, List.not_mem_nil, or_false, forall_eq_or_imp, forall_eq, ne_eq]; omega) | (simp only [World.size_alloc, World.size_setCell, World.size_drew]; omega) | omega)) hKx; replace hR := hRx; (try replace hV := Rows.kp (by repeat (first | assumption | apply Rows.alloc | apply Rows.drew | (refine Rows.set ?_ hfr (by dsimp only; omega) _) | (refine Rows.setO ?_ (by simp [Value.ownBlock]; omega) _))) hKx hfr hfl); have hsx := hKx.size; (try simp only [World.size_alloc, World.size_setCell, World.size_drew] at hsx); clear hRx hKx; (try clear o); have o := hF.own; simp only [World.size_alloc, World.size_drew, World.size_setCell, List.mem_cons, List.not_mem_nil, or_false, forall_eq_or_imp, forall_eq, At, and_true, Nat.zero_add, Nat.reduceAdd, List.set_cons_zero, List.set_cons_succ] at o))
      exact bodyPost_ret (v := .tuple #[.slice ao 0 cap, .int .i64 vx, .agg #[.int .i64 fx, .int .i64 bx]]) (by simp [results, Try.results31, go_sem, o]) rfl ⟨_, [], vx, fx, bx, rfl, Rows.nil _ _ _ hcap _ _, by simp, ⟨by omega, by omega, by omega, by omega⟩, (by have kp := hF.kp; repeat (first | (refine Below.setCell ?_ (by dsimp only; omega) _) | apply Below.drew | (refine Below.alloc ?_ (by first | (simp only [World.size_alloc, World.size_setCell, World.size_drew]; omega) | omega) _) | exact kp.below (by omega) (Nat.le_refl _)))⟩
    · exfalso; have := hn.out; omega
end Go.Proofs.Ytgajgjhanpnbdaa
