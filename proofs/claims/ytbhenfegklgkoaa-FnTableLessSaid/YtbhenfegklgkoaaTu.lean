/- Law on the order of putting: FnPutOrder. -/
import Derived.Test.YtbhenfegklgkoaaTt
import Derived.Test.YtbhenfegklgkoaaLy
set_option linter.unusedSimpArgs false
set_option linter.unusedVariables false
namespace Go.Proofs.Ytbhenfegklgkoaa
open Go.RowKit

theorem lyTable_same (v1 v2 : Value) (X : List Ent) (w : World) (h1 : Ents w v1 X) (h2 : Ents w v2 X) : Calls Try.prog 30 #[v1, v2] w fun e w' => e = .returned (.bool true) ∧ Below w.heap.size w w' := by
  have := lyTable_any v1 v2 X X w h1 h2; rwa [decide_eq_true rfl] at this
set_option maxHeartbeats 4000000 in
theorem FnPutOrder_walk (a0 a1 : Option Addr) (n0 c0 n1 c1 : Nat) (w : World) (h0 : Given w (.slice a0 n0 c0)) (_h1 : Given w (.slice a1 n1 c1)) :
    Calls Try.prog 9 #[.slice a0 n0 c0, .slice a1 n1 c1] w fun e w' => e = .returned (.bool true) ∧ Below w.heap.size w w' := by
  by_cases hn0 : 1048576 < n0
  · have e0 : decide (1048576 < (n0 : Int)) = true := by simp; omega
    go_enter Try.func9, Try.ntmps9
    go_wp2
    go_ret
    exact ⟨rfl, Below.refl _ _⟩
  have e0 : decide (1048576 < (n0 : Int)) = false := by simp; omega
  by_cases hn1 : 1048576 < n1
  · have e1 : decide (1048576 < (n1 : Int)) = true := by simp; omega
    go_enter Try.func9, Try.ntmps9
    go_wp2
    go_ret
    exact ⟨rfl, Below.refl _ _⟩
  have e1 : decide (1048576 < (n1 : Int)) = false := by simp; omega
  have hF := Fb.start w
  go_enter Try.func9, Try.ntmps9
  go_wp2_with fail
  refine (drawTablePut_any _ _ h0).mono ?_; rintro e w1 ⟨v, T, f, b, g, rfl, hV, hT, hb1⟩
  replace hF := hF.below hb1
  clear hb1 h0
  go_wp2_with fail
  replace hF := hF.alloc [.int .i64 f, .int .i64 b, .int .i64 g] 29
  replace hV := hV.alloc (.cells #[.int .i64 f, .int .i64 b, .int .i64 g] 29)
  generalize hbe : w1.heap.size = be at *
  obtain ⟨X, q, hX⟩ : ∃ X q, tput T (f, b, g) = (X, q) := ⟨_, _, rfl⟩
  have htwo := Lib.hid (fun h h1 h2 h3 => tput_two (T := T) (e := (f, b, g)) (f := (lyF n1, (n1 : Int) % 9, 1 + (n1 : Int) % 9)) h h1 h2 h3)
  have c1 := sTablePut_any v T f b g _ hV (by omega)
  rw [hX] at c1 htwo
  refine c1.mono ?_; rintro e w2 ⟨u1, rfl, hO1, hb2⟩
  clear c1
  replace hF := hF.below hb2
  replace hV := hV.below hb2
  have hU1 : Tb w2 u1 X := hO1.tb
  clear hb2 hO1
  have o := hF.own; simp only [World.size_alloc, World.size_drew, World.size_setCell, List.mem_cons, List.not_mem_nil, or_false, forall_eq_or_imp, forall_eq, At, and_true, Nat.zero_add, Nat.reduceAdd, List.set_cons_zero, List.set_cons_succ] at o
  go_wp2_with fail
  have c1 := iTablePut_any v T f b g _ hV
  rw [hX] at c1
  refine c1.mono ?_; rintro e w3 ⟨u2, rfl, hO2, hb3⟩
  clear c1 hX
  replace hF := hF.below hb3
  replace hV := hV.below hb3
  replace hU1 := hU1.below hb3
  have hU2 := hO2.tb
  clear hb3 hO2 o
  have o := hF.own; simp only [World.size_alloc, World.size_drew, World.size_setCell, List.mem_cons, List.not_mem_nil, or_false, forall_eq_or_imp, forall_eq, At, and_true, Nat.zero_add, Nat.reduceAdd, List.set_cons_zero, List.set_cons_succ] at o
  have hqq : (q != q) = false := by simp
  have hqe : (q == q) = true := by simp
  cases q
  · go_wp2_with (go_at_call 30; go_must (refine (lyTable_same _ _ X _ hU2.1 hU1.1).mono ?_); rintro e wx ⟨rfl, hbx⟩; replace hF := hF.below hbx; replace hU1 := hU1.below hbx; replace hU2 := hU2.below hbx; clear hbx)
    go_ret
    exact ⟨rfl, hF.kp⟩
  · go_wp2_with (first | (go_at_call 30; go_must (refine (lyTable_same _ _ X _ hU2.1 hU1.1).mono ?_); rintro e wx ⟨rfl, hbx⟩; replace hF := hF.below hbx; replace hU2 := hU2.below hbx; replace hV := hV.below hbx; clear hbx hU1; (try clear o); have o := hF.own; simp only [World.size_alloc, World.size_drew, World.size_setCell, List.mem_cons, List.not_mem_nil, or_false, forall_eq_or_imp, forall_eq, At, and_true, Nat.zero_add, Nat.reduceAdd, List.set_cons_zero, List.set_cons_succ] at o) | (go_at_call 35; go_must (refine (lyRange_any n1 (by omega) _).mono ?_); rintro e wx ⟨rfl, hbx⟩; replace hF := hF.below hbx; replace hU2 := hU2.below hbx; replace hV := hV.below hbx; clear hbx; (try clear o); have o := hF.own; simp only [World.size_alloc, World.size_drew, World.size_setCell, List.mem_cons, List.not_mem_nil, or_false, forall_eq_or_imp, forall_eq, At, and_true, Nat.zero_add, Nat.reduceAdd, List.set_cons_zero, List.set_cons_succ] at o))
    replace htwo := htwo.out trivial
    generalize lyF (n1 : Int) = F1 at *
    generalize (n1 : Int) % 9 = F2 at *
    replace hF := hF.alloc [.int .i64 F1, .int .i64 F2, .int .i64 (1 + F2)] 29
    replace hU2 := hU2.alloc (.cells #[.int .i64 F1, .int .i64 F2, .int .i64 (1 + F2)] 29)
    replace hV := hV.alloc (.cells #[.int .i64 F1, .int .i64 F2, .int .i64 (1 + F2)] 29)
    generalize hbf : wx.heap.size = bf at *
    obtain ⟨Y, y, hY⟩ : ∃ Y y, tput X (F1, F2, 1 + F2) = (Y, y) := ⟨_, _, rfl⟩
    obtain ⟨U, u, hU⟩ : ∃ Y y, tput T (F1, F2, 1 + F2) = (Y, y) := ⟨_, _, rfl⟩
    obtain ⟨Z, z, hZ⟩ : ∃ Y y, tput U (f, b, g) = (Y, y) := ⟨_, _, rfl⟩
    rw [hY, hU] at htwo
    dsimp only at htwo
    rw [hZ] at htwo
    dsimp only at htwo
    have HT := Lib.hid htwo
    clear htwo o
    have c1 := iTablePut_any u2 X F1 F2 (1 + F2) _ hU2
    have c2 := fun w' (h : Tb w' v T) => iTablePut_any v T F1 F2 (1 + F2) w' h
    have c3 := fun v' w' (h : Tb w' v' U) => iTablePut_any v' U f b g w' h
    rw [hY] at c1
    rw [hU] at c2
    rw [hZ] at c3
    have C2 := Lib.hid c2
    have C3 := Lib.hid c3
    clear c2 c3 hY hU hZ hU2
    refine c1.mono ?_; rintro e w4 ⟨uy, rfl, hOy, hb4⟩
    replace hF := hF.below hb4
    replace hV := hV.below hb4
    have hUy := hOy.tb
    clear hb4 hOy c1
    have o := hF.own; simp only [World.size_alloc, World.size_drew, World.size_setCell, List.mem_cons, List.not_mem_nil, or_false, forall_eq_or_imp, forall_eq, At, and_true, Nat.zero_add, Nat.reduceAdd, List.set_cons_zero, List.set_cons_succ] at o
    go_wp2_with fail
    refine (C2.out _ hV).mono ?_; rintro e w5 ⟨uu, rfl, hOu, hb5⟩
    replace hF := hF.below hb5
    replace hUy := hUy.below hb5
    have hUu := hOu.tb
    clear hb5 hOu o hV
    have o := hF.own; simp only [World.size_alloc, World.size_drew, World.size_setCell, List.mem_cons, List.not_mem_nil, or_false, forall_eq_or_imp, forall_eq, At, and_true, Nat.zero_add, Nat.reduceAdd, List.set_cons_zero, List.set_cons_succ] at o
    go_wp2_with fail
    refine (C3.out _ _ hUu).mono ?_; rintro e w6 ⟨uz, rfl, hOz, hb6⟩
    replace hF := hF.below hb6
    replace hUy := hUy.below hb6
    replace hUu := hUu.below hb6
    have hUz := hOz.tb
    clear hb6 hOz o
    have o := hF.own; simp only [World.size_alloc, World.size_drew, World.size_setCell, List.mem_cons, List.not_mem_nil, or_false, forall_eq_or_imp, forall_eq, At, and_true, Nat.zero_add, Nat.reduceAdd, List.set_cons_zero, List.set_cons_succ] at o
    cases y
    · go_wp2
      go_ret
      exact ⟨rfl, hF.kp⟩
    · cases u
      · go_wp2
        go_ret
        exact ⟨rfl, hF.kp⟩
      · cases z
        · go_wp2
          go_ret
          exact ⟨rfl, hF.kp⟩
        · have HT2 := HT.out rfl rfl rfl
          by_cases he : F1 = f ∧ F2 = b
          · have hq : ∀ w, (binOp .eql 27 (.agg #[.int .i64 F1, .int .i64 F2]) (.agg #[.int .i64 f, .int .i64 b])).run Try.prog w = .ok (.bool true) w := fun w => by rw [rng_eql, he.1, he.2]; simp
            have hyu := Lib.hid (HT2.1 (by rw [eq_iff]; exact ⟨he.1.symm, he.2.symm⟩))
            have hUu' : Tb w6 uu Y := by rw [hyu.out]; exact hUu
            clear HT2 he HT
            go_wp2_with (go_at_call 30; go_must (refine (lyTable_same _ _ Y _ hUy.1 hUu'.1).mono ?_); rintro e wx ⟨rfl, hbx⟩; replace hF := hF.below hbx; clear hbx)
            go_ret
            exact ⟨rfl, hF.kp⟩
          · have hq : ∀ w, (binOp .eql 27 (.agg #[.int .i64 F1, .int .i64 F2]) (.agg #[.int .i64 f, .int .i64 b])).run Try.prog w = .ok (.bool false) w := fun w => by
              rw [rng_eql]
              have : (F1 == f && F2 == b) = false := by
                rw [Bool.eq_false_iff]; intro g; simp at g; exact he g
              rw [this]
            have hyu := Lib.hid (HT2.2 (by rw [Ne, eq_iff]; exact fun g => he ⟨g.1.symm, g.2.symm⟩))
            have hUz' : Tb w6 uz Y := by rw [hyu.out]; exact hUz
            clear HT2 he HT
            go_wp2_with (go_at_call 30; go_must (refine (lyTable_same _ _ Y _ hUy.1 hUz'.1).mono ?_); rintro e wx ⟨rfl, hbx⟩; replace hF := hF.below hbx; clear hbx)
            go_ret
            exact ⟨rfl, hF.kp⟩
end Go.Proofs.Ytbhenfegklgkoaa
