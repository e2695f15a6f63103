/- FnTableHalves: the walk. -/
import Derived.Test.YtbhenfegklgkoaaUc
import Derived.Test.YtbhenfegklgkoaaHs
set_option linter.unusedSimpArgs false
set_option linter.unusedVariables false
namespace Go.Proofs.Ytbhenfegklgkoaa
open Go.RowKit

theorem iRangeHalf_ex (f b : Int) (up : Bool) (w : World) :
    Calls Try.prog 39 #[.agg #[.int .i64 f, .int .i64 b], .bool up] w fun e w' => ∃ x y, Hid (x = Ytbhenfegklgkoaa.hF f b up ∧ y = hB f b) ∧ e = .returned (.tuple #[.agg #[.int .i64 x, .int .i64 y], .bool (decide (Hlf f b))]) ∧ Below w.heap.size w w' :=
  (iRangeHalf_lit f b up w).mono fun _ _ ⟨h1, h2⟩ => ⟨_, _, Lib.hid ⟨rfl, rfl⟩, h1, h2⟩
theorem ep_half {f b g : Int} (up : Bool) (h : Hlf f b) (hg : Bts g 1 9) : EP (Ytbhenfegklgkoaa.hF f b up, hB f b, g) := ⟨half_ok up h, hg⟩

set_option maxHeartbeats 8000000 in
set_option maxRecDepth 100000 in
theorem FnTableHalves_walk (a0 a1 : Option Addr) (n0 c0 n1 c1 : Nat) (w : World) (h0 : Given w (.slice a0 n0 c0)) (_h1 : Given w (.slice a1 n1 c1)) :
    Calls Try.prog 13 #[.slice a0 n0 c0, .slice a1 n1 c1] w fun e w' => e = .returned (.bool true) ∧ Below w.heap.size w w' := by
  by_cases hn0 : 1048576 < n0
  · have e0 : decide (1048576 < (n0 : Int)) = true := by simp; omega
    go_enter Try.func13, Try.ntmps13
    go_wp2
    go_ret
    exact ⟨rfl, Below.refl _ _⟩
  have e0 : decide (1048576 < (n0 : Int)) = false := by simp; omega
  by_cases hn1 : 1048576 < n1
  · have e1 : decide (1048576 < (n1 : Int)) = true := by simp; omega
    go_enter Try.func13, Try.ntmps13
    go_wp2
    go_ret
    exact ⟨rfl, Below.refl _ _⟩
  have e1 : decide (1048576 < (n1 : Int)) = false := by simp; omega
  have hF := Fb.start w
  clear _h1
  go_enter Try.func13, Try.ntmps13
  go_wp2_with fail
  refine (drawTablePut_any _ _ h0).mono ?_; rintro e w1 ⟨v, T, f, b, g, rfl, hV, hT, hb1⟩
  replace hF := hF.below hb1
  clear hb1 h0
  go_wp2_with fail
  replace hF := hF.alloc [.int .i64 f, .int .i64 b, .int .i64 g] 29
  replace hV := hV.alloc (.cells #[.int .i64 f, .int .i64 b, .int .i64 g] 29)
  generalize hbe : w1.heap.size = be at *
  obtain ⟨X, q, hX⟩ : ∃ X q, tput T (f, b, g) = (X, q) := ⟨_, _, rfl⟩
  have HX := Lib.hid hX
  have c1 := sTablePut_any v T f b g _ hV (by omega)
  rw [hX] at c1
  refine c1.mono ?_; rintro e w2 ⟨vx1, rfl, hO1, hb2⟩
  clear c1
  replace hF := hF.below hb2
  replace hV := hV.below hb2
  have hU1 : Tb w2 vx1 X := hO1.tb
  clear hb2 hO1
  have o := hF.own; simp only [World.size_alloc, World.size_drew, World.size_setCell, List.mem_cons, List.not_mem_nil, or_false, forall_eq_or_imp, forall_eq, At, and_true, Nat.zero_add, Nat.reduceAdd, List.set_cons_zero, List.set_cons_succ] at o
  go_wp2_with fail
  have c1 := iTablePut_any v T f b g _ hV
  rw [hX] at c1
  refine c1.mono ?_; rintro e w3 ⟨vx2, rfl, hO2, hb3⟩
  clear c1 hX
  replace hF := hF.below hb3
  replace hU1 := hU1.below hb3
  have hU2 := hO2.tb
  clear hb3 hO2 o hV
  have o := hF.own; simp only [World.size_alloc, World.size_drew, World.size_setCell, List.mem_cons, List.not_mem_nil, or_false, forall_eq_or_imp, forall_eq, At, and_true, Nat.zero_add, Nat.reduceAdd, List.set_cons_zero, List.set_cons_succ] at o
  have hqq : (q != q) = false := by simp
  have hqe : (q == q) = true := by simp
  cases q
  · go_wp2_with ((go_at_call 30; go_must (refine (lyTable_same _ _ X _ hU2.1 hU1.1).mono ?_); rintro e wx ⟨rfl, hbx⟩; replace hF := hF.below hbx; (try replace hV := hV.below hbx); (try replace hU1 := hU1.below hbx); (try replace hU2 := hU2.below hbx); (try replace hU3 := hU3.below hbx); clear hbx; (try clear o); have o := hF.own; simp only [World.size_alloc, World.size_drew, World.size_setCell, List.mem_cons, List.not_mem_nil, or_false, forall_eq_or_imp, forall_eq, At, and_true, Nat.zero_add, Nat.reduceAdd, List.set_cons_zero, List.set_cons_succ] at o))
    go_ret
    exact ⟨rfl, hF.kp⟩
  · have hok := Lib.hid (tput_ok (T := T) (e := (f, b, g)) (by rw [HX.out]))
    have hXi : Hid (X = ins (f, b, g) T) := by
      have := hok.out.2.2.2.1
      rw [HX.out] at this
      injection this
    have hXok : Hid (TOk X) := by show TOk X; rw [hXi.out]; exact hok.out.2.2.2.2
    have hXe : Hid ((f, b, g) ∈ X) := by show _ ∈ X; rw [hXi.out]; exact (ins_mem (tok_srt hok.out.1)).2 (Or.inl rfl)
    have hRk : Hid (ROk f b) := hok.out.2.1.1
    clear HX hXi hok hT
    go_wp2_with ((go_at_call 30; go_must (refine (lyTable_same _ _ X _ hU2.1 hU1.1).mono ?_); rintro e wx ⟨rfl, hbx⟩; replace hF := hF.below hbx; (try replace hV := hV.below hbx); (try replace hU1 := hU1.below hbx); (try replace hU2 := hU2.below hbx); (try replace hU3 := hU3.below hbx); clear hbx; (try clear o); have o := hF.own; simp only [World.size_alloc, World.size_drew, World.size_setCell, List.mem_cons, List.not_mem_nil, or_false, forall_eq_or_imp, forall_eq, At, and_true, Nat.zero_add, Nat.reduceAdd, List.set_cons_zero, List.set_cons_succ] at o))
    clear hU1 hqq hqe
    obtain ⟨wa, rfl⟩ : ∃ wa : World, wa = wx := ⟨_, rfl⟩
    by_cases hb8 : b = 8
    · have dH : decide (Hlf f b) = false := by simp [Hlf, hb8]
      have e8 : (b == 8) = true := by simp [hb8]
      clear hb8
      refine (iRangeHalf_ex f b false _).mono ?_; rintro e w4 ⟨fa, ba, HA, rfl, hb4⟩
      replace hF := hF.below hb4
      clear hb4 o
      have o := hF.own; simp only [World.size_alloc, World.size_drew, World.size_setCell, List.mem_cons, List.not_mem_nil, or_false, forall_eq_or_imp, forall_eq, At, and_true, Nat.zero_add, Nat.reduceAdd, List.set_cons_zero, List.set_cons_succ] at o
      go_wp2_with fail
      replace hF := hF.alloc [.int .i64 fa, .int .i64 ba] 27
      clear o
      have o := hF.own; simp only [World.size_alloc, World.size_drew, World.size_setCell, List.mem_cons, List.not_mem_nil, or_false, forall_eq_or_imp, forall_eq, At, and_true, Nat.zero_add, Nat.reduceAdd, List.set_cons_zero, List.set_cons_succ] at o
      refine (iRangeHalf_ex f b true _).mono ?_; rintro e w5 ⟨fb, bb, HB, rfl, hb5⟩
      replace hF := hF.below hb5
      clear hb5 o
      have o := hF.own; simp only [World.size_alloc, World.size_drew, World.size_setCell, List.mem_cons, List.not_mem_nil, or_false, forall_eq_or_imp, forall_eq, At, and_true, Nat.zero_add, Nat.reduceAdd, List.set_cons_zero, List.set_cons_succ] at o
      go_wp2
      go_ret
      exact ⟨rfl, (hF.alloc [.int .i64 fb, .int .i64 bb] 27).kp⟩
    · have hH : Hid (Hlf f b) := ⟨hRk.out, hb8⟩
      have dH : decide (Hlf f b) = true := by simp [hH.out]
      obtain ⟨q, hq⟩ : ∃ q : Nat, (n1 : Int) % 9 = (q : Int) := ⟨n1 % 9, by simp⟩
      have hq9 : Hid (Bts (1 + (q : Int)) 1 9) := by
        have := Int.emod_lt_of_pos (n1 : Int) (show 0 < (9 : Int) by omega)
        show Bts _ _ _
        exact ⟨by omega, by omega⟩
      clear hb8
      refine (iRangeHalf_ex f b false _).mono ?_; rintro e w4 ⟨fa, ba, HA, rfl, hb4⟩
      replace hF := hF.below hb4
      replace hU2 := hU2.below hb4
      clear hb4 o
      have o := hF.own; simp only [World.size_alloc, World.size_drew, World.size_setCell, List.mem_cons, List.not_mem_nil, or_false, forall_eq_or_imp, forall_eq, At, and_true, Nat.zero_add, Nat.reduceAdd, List.set_cons_zero, List.set_cons_succ] at o
      go_wp2_with fail
      replace hF := hF.alloc [.int .i64 fa, .int .i64 ba] 27
      replace hU2 := hU2.alloc (.cells #[.int .i64 fa, .int .i64 ba] 27)
      clear o
      have o := hF.own; simp only [World.size_alloc, World.size_drew, World.size_setCell, List.mem_cons, List.not_mem_nil, or_false, forall_eq_or_imp, forall_eq, At, and_true, Nat.zero_add, Nat.reduceAdd, List.set_cons_zero, List.set_cons_succ] at o
      refine (iRangeHalf_ex f b true _).mono ?_; rintro e w5 ⟨fb, bb, HB, rfl, hb5⟩
      replace hF := hF.below hb5
      replace hU2 := hU2.below hb5
      clear hb5 o
      have o := hF.own; simp only [World.size_alloc, World.size_drew, World.size_setCell, List.mem_cons, List.not_mem_nil, or_false, forall_eq_or_imp, forall_eq, At, and_true, Nat.zero_add, Nat.reduceAdd, List.set_cons_zero, List.set_cons_succ] at o
      go_wp2_with fail
      replace hF := hF.alloc [.int .i64 fb, .int .i64 bb] 27
      replace hU2 := hU2.alloc (.cells #[.int .i64 fb, .int .i64 bb] 27)
      clear o
      have o := hF.own; simp only [World.size_alloc, World.size_drew, World.size_setCell, List.mem_cons, List.not_mem_nil, or_false, forall_eq_or_imp, forall_eq, At, and_true, Nat.zero_add, Nat.reduceAdd, List.set_cons_zero, List.set_cons_succ] at o
      obtain ⟨Y, r3, hY⟩ : ∃ Y r3, tput X (fa, ba, 1 + (q : Int)) = (Y, r3) := ⟨_, _, rfl⟩
      have HY := Lib.hid hY
      have c1 := iTablePut_any _ X fa ba (1 + (q : Int)) _ hU2
      rw [hY] at c1
      refine c1.mono ?_; rintro e w6 ⟨vx3, rfl, hO3, hb3⟩
      clear c1 hY
      replace hF := hF.below hb3
      have hU3 := hO3.tb
      clear hb3 hO3 o hU2
      have o := hF.own; simp only [World.size_alloc, World.size_drew, World.size_setCell, List.mem_cons, List.not_mem_nil, or_false, forall_eq_or_imp, forall_eq, At, and_true, Nat.zero_add, Nat.reduceAdd, List.set_cons_zero, List.set_cons_succ] at o
      go_wp2_with fail
      obtain ⟨Z, r4, hZ⟩ : ∃ Z r4, tput Y (fb, bb, 3) = (Z, r4) := ⟨_, _, rfl⟩
      have HZ := Lib.hid hZ
      have c1 := iTablePut_any _ Y fb bb 3 _ hU3
      rw [hZ] at c1
      refine c1.mono ?_; rintro e w7 ⟨vx4, rfl, hO4, hb3⟩
      clear c1 hZ
      replace hF := hF.below hb3
      have hU4 := hO4.tb
      clear hb3 hO4 o hU3
      have o := hF.own; simp only [World.size_alloc, World.size_drew, World.size_setCell, List.mem_cons, List.not_mem_nil, or_false, forall_eq_or_imp, forall_eq, At, and_true, Nat.zero_add, Nat.reduceAdd, List.set_cons_zero, List.set_cons_succ] at o
      go_wp2_with fail
      obtain ⟨L, r5, hL⟩ : ∃ L r5, tdrp Z (f, b) = (L, r5) := ⟨_, _, rfl⟩
      have HL := Lib.hid hL
      have c1 := iTableDrop_any _ Z f b _ hU4
      rw [hL] at c1
      refine c1.mono ?_; rintro e w8 ⟨vx5, rfl, hO5, hb3⟩
      clear c1 hL
      replace hF := hF.below hb3
      replace hU4 := hU4.below hb3
      have hU5 := hO5.tb
      clear hb3 hO5 o
      cases r3
      · go_wp2
        go_ret
        exact ⟨rfl, hF.kp⟩
      · cases r4
        · go_wp2
          go_ret
          exact ⟨rfl, hF.kp⟩
        · have hfin : Hid ((L, r5) = (drp Z (f, b), true) ∧ TSame L Z) := by
            obtain ⟨e1, e2⟩ := HA.out
            obtain ⟨e3, e4⟩ := HB.out
            have k3 := tput_ok (T := X) (e := (fa, ba, 1 + (q : Int))) (by rw [HY.out])
            have k4 := tput_ok (T := Y) (e := (fb, bb, 3)) (by rw [HZ.out])
            have y3 : Y = ins (fa, ba, 1 + (q : Int)) X := by have := k3.2.2.2.1; rw [HY.out] at this; injection this
            have z4 : Z = ins (fb, bb, 3) Y := by have := k4.2.2.2.1; rw [HZ.out] at this; injection this
            have l3 := k3.2.2.1
            have l4 := k4.2.2.1
            rw [y3] at l4
            subst e1 e2 e3 e4
            have hh := halves_drop hXok.out hXe.out hH.out (ep_half false hH.out hq9.out) (ep_half true hH.out (show Bts 3 1 9 from ⟨by omega, by omega⟩)) l3 l4
            rw [← y3, ← z4, HL.out] at hh
            have := hh.1
            injection this with t1 t2
            show _ ∧ _
            rw [t1]
            exact ⟨by rw [t2], hh.2⟩
          obtain rfl : r5 = true := by have := hfin.out.1; injection this
          have hsm : decide (TSame L Z) = true := decide_eq_true hfin.out.2
          go_wp2_with ((go_at_call 25; go_must (refine (iTableSame_any _ _ L Z _ hU5.1 hU4.1).mono ?_); rintro e wx ⟨rfl, hbx⟩; replace hF := hF.below hbx; (try replace hV := hV.below hbx); (try replace hU1 := hU1.below hbx); (try replace hU2 := hU2.below hbx); clear hbx))
          go_ret
          exact ⟨rfl, hF.kp⟩
end Go.Proofs.Ytbhenfegklgkoaa
