/- A clause drawn. -/
import Derived.Test.YtgegmampnpgcaaaDoorDb
import Derived.Test.YtgegmampnpgcaaaDoorKa
import Derived.Deep.DeepCutAuto
set_option linter.unusedSimpArgs false
set_option linter.unusedVariables false
namespace Go.Proofs.YtgegmampnpgcaaaDoor
open Go.RowKit

/-- Eight cells written one after the other. -/
theorem put8 {r n : Nat} {W w : World} {z0 z1 z2 z3 z4 z5 z6 z7 : Value} {L : List (Nat × List Value)} (hF : Fr r W w ((n, [z0, z1, z2, z3, z4, z5, z6, z7]) :: L)) (hL : ∀ q ∈ L, q.1 ≠ n) (u0 u1 u2 u3 u4 u5 u6 u7 : Value) :
    ∃ w', w' = (((((((w.setCell ⟨n, 0, none⟩ u0).setCell ⟨n, 1, none⟩ u1).setCell ⟨n, 2, none⟩ u2).setCell ⟨n, 3, none⟩ u3).setCell ⟨n, 4, none⟩ u4).setCell ⟨n, 5, none⟩ u5).setCell ⟨n, 6, none⟩ u6).setCell ⟨n, 7, none⟩ u7 ∧ Fr r W w' ((n, [u0, u1, u2, u3, u4, u5, u6, u7]) :: L) ∧ ∀ k, Rd w r k → r < n → Rd w' r k :=
  ⟨_, rfl, (((((((hF.set 0 u0 (by simp) hL).set 1 u1 (by simp) hL).set 2 u2 (by simp) hL).set 3 u3 (by simp) hL).set 4 u4 (by simp) hL).set 5 u5 (by simp) hL).set 6 u6 (by simp) hL).set 7 u7 (by simp) hL,
   fun k h hn => (((((((h.setCell (p := ⟨n, 0, none⟩) hn u0).setCell (p := ⟨n, 1, none⟩) hn u1).setCell (p := ⟨n, 2, none⟩) hn u2).setCell (p := ⟨n, 3, none⟩) hn u3).setCell (p := ⟨n, 4, none⟩) hn u4).setCell (p := ⟨n, 5, none⟩) hn u5).setCell (p := ⟨n, 6, none⟩) hn u6).setCell (p := ⟨n, 7, none⟩) hn u7⟩
theorem Fr.swp {r : Nat} {W w : World} {x y : Nat × List Value} {L : List (Nat × List Value)} (h : Fr r W w (x :: y :: L)) : Fr r W w (y :: x :: L) := h.sub fun p hp => by
  simp only [List.mem_cons] at hp ⊢
  rcases hp with h | h | h <;> simp [h]
/-- What a clause's drawn numbers are: small. -/
def Sm8 (i n f b l m c : Int) : Prop := (-300 ≤ i ∧ i ≤ 600) ∧ (-300 ≤ n ∧ n ≤ 600) ∧ (-300 ≤ f ∧ f ≤ 600) ∧ (-300 ≤ b ∧ b ≤ 600) ∧ (-300 ≤ l ∧ l ≤ 600) ∧ (-300 ≤ m ∧ m ≤ 600) ∧ (-300 ≤ c ∧ c ≤ 600)
set_option maxHeartbeats 4000000 in
theorem l91Clause_any (r k : Nat) (w : World) (hR : Rd w r k) (hk : k ≤ 800000) :
    Calls Tryd.prog 37 #[.pointer (some ⟨r, 0, none⟩)] w fun e w' => ∃ (i n f b l m c : Int) (rf : Bool), e = .returned (.agg #[.int .i64 i, .int .i64 n, .int .i64 f, .int .i64 b, .bool rf, .int .i64 l, .int .i64 m, .int .i64 c]) ∧ Sm8 i n f b l m c ∧ (∃ k', k' ≤ k + 40 ∧ Rd w' r k') ∧ Kp r w w' := by
  have hr := hR.lt
  obtain ⟨n0, hn0⟩ : ∃ n, w.heap.size = n := ⟨_, rfl⟩
  have hF := (Fr.start r w).alloc [.int .i64 0, .int .i64 0, .int .i64 0, .int .i64 0, .bool false, .int .i64 0, .int .i64 0, .int .i64 0] 26 hr
  replace hR := hR.alloc (.cells #[.int .i64 0, .int .i64 0, .int .i64 0, .int .i64 0, .bool false, .int .i64 0, .int .i64 0, .int .i64 0] 26)
  rw [hn0] at hF hr
  go_enter Tryd.func37, Tryd.ntmps37
  go_wp2_with fail
  refine (pick_any r _ _ _ (hR) (by omega) (by omega) (by omega)).mono ?_; rintro e w1 ⟨v1, rfl, u1, l1, hR1, hK1⟩
  have hs1 := hK1.size
  try simp only [World.size_alloc, World.size_setCell, World.size_drew] at hs1
  go_wp2_with fail
  refine (pick_any r _ _ _ (hR1) (by omega) (by omega) (by omega)).mono ?_; rintro e w2 ⟨v2, rfl, u2, l2, hR2, hK2⟩
  have hs2 := hK2.size
  try simp only [World.size_alloc, World.size_setCell, World.size_drew] at hs2
  go_wp2_with fail
  refine (pick_any r _ _ _ (hR2) (by omega) (by omega) (by omega)).mono ?_; rintro e w3 ⟨v3, rfl, u3, l3, hR3, hK3⟩
  have hs3 := hK3.size
  try simp only [World.size_alloc, World.size_setCell, World.size_drew] at hs3
  go_wp2_with fail
  refine (pick_any r _ _ _ (hR3) (by omega) (by omega) (by omega)).mono ?_; rintro e w4 ⟨v4, rfl, u4, l4, hR4, hK4⟩
  have hs4 := hK4.size
  try simp only [World.size_alloc, World.size_setCell, World.size_drew] at hs4
  go_wp2_with fail
  refine (pick_any r _ _ _ (hR4) (by omega) (by omega) (by omega)).mono ?_; rintro e w5 ⟨v5, rfl, u5, l5, hR5, hK5⟩
  have hs5 := hK5.size
  try simp only [World.size_alloc, World.size_setCell, World.size_drew] at hs5
  replace hF := ((((hF.call hK1).call hK2).call hK3).call hK4).call hK5
  obtain ⟨n5, hn5⟩ : ∃ n, w5.heap.size = n := ⟨_, rfl⟩
  have h05 : n0 < n5 := by omega
  clear hR hR1 hR2 hR3 hR4 hK1 hK2 hK3 hK4 hK5 hs1 hs2 hs3 hs4
  have hr5 := hR5.lt
  go_upto_block 0 with (fail)
  have hF5 := hF.alloc [.int .i64 (1 + v1), .int .i64 0, .int .i64 0, .int .i64 0, .bool (v2 == 0), .int .i64 (v3 - 1), .int .i64 v4, .int .i64 v5] 26 hr5
  have hR6 := hR5.alloc (.cells #[.int .i64 (1 + v1), .int .i64 0, .int .i64 0, .int .i64 0, .bool (v2 == 0), .int .i64 (v3 - 1), .int .i64 v4, .int .i64 v5] 26)
  rw [hn5] at hF5 hr5
  clear hF hR5
  go_cut [3] (fun s3 wx => ∃ (i n f b l m c : Int) (rf : Bool) (k' : Nat), s3 = .pointer (some ⟨n5, 0, none⟩) ∧ Sm8 i n f b l m c ∧ k' ≤ k + 25 ∧ Rd wx r k' ∧ Fr r w wx [(n5, [.int .i64 i, .int .i64 n, .int .i64 f, .int .i64 b, .bool rf, .int .i64 l, .int .i64 m, .int .i64 c]), (n0, [.int .i64 0, .int .i64 0, .int .i64 0, .int .i64 0, .bool false, .int .i64 0, .int .i64 0, .int .i64 0])])
  case first =>
    generalize w5.alloc _ = wb at *
    have hv : v1 = 0 ∨ v1 = 1 ∨ v1 = 2 ∨ v1 = 3 ∨ v1 = 4 := by omega
    have hr0 : r ≠ n5 := by omega
    clear hn0 hn5 hs5
    rcases hv with rfl | rfl | rfl | rfl | rfl
    · go_wp2_with fail
      go_meet
      case rel => exact ⟨_, _, _, _, _, _, _, _, _, rfl, ⟨by omega, by omega, by omega, by omega, by omega, by omega, by omega⟩, by omega, hR6, hF5⟩
    · go_wp2_with fail
      refine (l91Range_any r _ _ hR6 (by omega)).mono ?_; rintro e wx ⟨fx, bx, rfl, flx, fhx, blx, bhx, ⟨kx, hkx, hRx⟩, hKx⟩
      have hF := hF5.call hKx
      clear hKx
      have o := hF.own; simp only [World.size_alloc, World.size_drew, World.size_setCell, List.mem_cons, List.not_mem_nil, or_false, forall_eq_or_imp, forall_eq, At, and_true, Nat.zero_add, Nat.reduceAdd, List.set_cons_zero, List.set_cons_succ] at o
      go_wp2_with fail
      go_meet
      case rel => exact ⟨_, _, fx, bx, _, _, _, _, _, rfl, ⟨by omega, by omega, by omega, by omega, by omega, by omega, by omega⟩, by omega, (hRx.setCell (p := ⟨n5, 2, none⟩) hr5 _).setCell (p := ⟨n5, 3, none⟩) hr5 _, (hF.set 2 (.int .i64 fx) (by simp) (by simp; omega)).set 3 (.int .i64 bx) (by simp) (by simp; omega)⟩
    all_goals
      go_wp2_with fail
      refine (pick_any r _ _ _ hR6 (by omega) (by omega) (by omega)).mono ?_; rintro e wx ⟨vx, rfl, px, lx, hRx, hKx⟩
      have hF := hF5.call hKx
      clear hKx
      have o := hF.own; simp only [World.size_alloc, World.size_drew, World.size_setCell, List.mem_cons, List.not_mem_nil, or_false, forall_eq_or_imp, forall_eq, At, and_true, Nat.zero_add, Nat.reduceAdd, List.set_cons_zero, List.set_cons_succ] at o
      go_wp2_with fail
      go_meet
      case rel => exact ⟨_, 1 + vx, _, _, _, _, _, _, _, rfl, ⟨by omega, by omega, by omega, by omega, by omega, by omega, by omega⟩, by omega, hRx.setCell (p := ⟨n5, 1, none⟩) hr5 _, hF.set 1 (.int .i64 (1 + vx)) (by simp) (by simp; omega)⟩
  case rest =>
    obtain ⟨i, n, f, b, l, m, c, rf, k', rfl, ⟨s1, s2, s3, s4, s5, s6, s7⟩, hk', hR, hF⟩ := hcut
    go_wp2_with fail
    refine (pick_any r _ _ _ hR (by omega) (by omega) (by omega)).mono ?_; rintro e wx ⟨v6, rfl, px, lx, hRx, hKx⟩
    replace hF := hF.call hKx
    clear hKx hR
    go_upto_block 1 with (fail)
    go_cut [3] (fun s3 wx => ∃ (i n f b l m c : Int) (rf : Bool) (k' : Nat), s3 = .pointer (some ⟨n5, 0, none⟩) ∧ Sm8 i n f b l m c ∧ k' ≤ k + 35 ∧ Rd wx r k' ∧ Fr r w wx [(n5, [.int .i64 i, .int .i64 n, .int .i64 f, .int .i64 b, .bool rf, .int .i64 l, .int .i64 m, .int .i64 c]), (n0, [.int .i64 0, .int .i64 0, .int .i64 0, .int .i64 0, .bool false, .int .i64 0, .int .i64 0, .int .i64 0])])
    case first =>
      by_cases z0 : v6 = 0
      · subst z0
        go_wp2_with fail
        refine (pick_any r _ _ _ hRx (by omega) (by omega) (by omega)).mono ?_; rintro e wy ⟨vy, rfl, py, ly, hRy, hKy⟩
        replace hF := hF.call hKy
        clear hKy
        have o := hF.own; simp only [World.size_alloc, World.size_drew, World.size_setCell, List.mem_cons, List.not_mem_nil, or_false, forall_eq_or_imp, forall_eq, At, and_true, Nat.zero_add, Nat.reduceAdd, List.set_cons_zero, List.set_cons_succ] at o
        go_wp2_with fail
        go_meet
        case rel => exact ⟨_, vy, _, _, _, _, _, _, _, rfl, ⟨by omega, by omega, by omega, by omega, by omega, by omega, by omega⟩, by omega, hRy.setCell (p := ⟨n5, 1, none⟩) hr5 _, hF.set 1 (.int .i64 vy) (by simp) (by simp; omega)⟩
      · have d0 : (v6 == 0) = false := by simp [z0]
        by_cases z1 : v6 = 1
        · subst z1
          have o := hF.own; simp only [World.size_alloc, World.size_drew, World.size_setCell, List.mem_cons, List.not_mem_nil, or_false, forall_eq_or_imp, forall_eq, At, and_true, Nat.zero_add, Nat.reduceAdd, List.set_cons_zero, List.set_cons_succ] at o
          go_wp2_with fail
          go_meet
          case rel => exact ⟨_, _, _, _, 10, _, _, _, _, rfl, ⟨by omega, by omega, by omega, by omega, by omega, by omega, by omega⟩, by omega, hRx.setCell (p := ⟨n5, 5, none⟩) hr5 _, hF.set 5 (.int .i64 10) (by simp) (by simp; omega)⟩
        · have d1 : (v6 == 1) = false := by simp [z1]
          by_cases z2 : v6 = 2
          · subst z2
            go_wp2_with fail
            refine (pick_any r _ _ _ hRx (by omega) (by omega) (by omega)).mono ?_; rintro e wy ⟨vy, rfl, py, ly, hRy, hKy⟩
            replace hF := hF.call hKy
            clear hKy
            have o := hF.own; simp only [World.size_alloc, World.size_drew, World.size_setCell, List.mem_cons, List.not_mem_nil, or_false, forall_eq_or_imp, forall_eq, At, and_true, Nat.zero_add, Nat.reduceAdd, List.set_cons_zero, List.set_cons_succ] at o
            go_wp2_with fail
            go_meet
            case rel => exact ⟨vy, _, _, _, _, _, _, _, _, rfl, ⟨by omega, by omega, by omega, by omega, by omega, by omega, by omega⟩, by omega, hRy.setCell (p := ⟨n5, 0, none⟩) hr5 _, hF.set 0 (.int .i64 vy) (by simp) (by simp; omega)⟩
          · have d2 : (v6 == 2) = false := by simp [z2]
            clear z0 z1 z2
            go_wp2_with fail
            go_meet
            case rel => exact ⟨_, _, _, _, _, _, _, _, _, rfl, ⟨by omega, by omega, by omega, by omega, by omega, by omega, by omega⟩, by omega, hRx, hF⟩
    case rest =>
      clear hF hRx px lx
      obtain ⟨i, n, f, b, l, m, c, rf, k', rfl, ⟨s1, s2, s3, s4, s5, s6, s7⟩, hk', hR, hF⟩ := hcut
      have o := hF.own; simp only [World.size_alloc, World.size_drew, World.size_setCell, List.mem_cons, List.not_mem_nil, or_false, forall_eq_or_imp, forall_eq, At, and_true, Nat.zero_add, Nat.reduceAdd, List.set_cons_zero, List.set_cons_succ] at o
      go_wp2_with fail
      obtain ⟨wz, hwz, e1, e2⟩ := put8 hF.swp (by simp; omega) (.int .i64 i) (.int .i64 n) (.int .i64 f) (.int .i64 b) (.bool rf) (.int .i64 l) (.int .i64 m) (.int .i64 c)
      rw [← hwz]
      clear hwz o hF
      have hF := e1
      have o := hF.own; simp only [World.size_alloc, World.size_drew, World.size_setCell, List.mem_cons, List.not_mem_nil, or_false, forall_eq_or_imp, forall_eq, At, and_true, Nat.zero_add, Nat.reduceAdd, List.set_cons_zero, List.set_cons_succ] at o
      refine bodyPost_ret (v := .agg #[.int .i64 i, .int .i64 n, .int .i64 f, .int .i64 b, .bool rf, .int .i64 l, .int .i64 m, .int .i64 c]) ?_ rfl ?_
      · simp [results, Tryd.results37, go_sem, o]
      · exact ⟨_, _, _, _, _, _, _, _, rfl, ⟨s1, s2, s3, s4, s5, s6, s7⟩, ⟨_, by omega, e2 _ hR hr⟩, e1.kp⟩
end Go.Proofs.YtgegmampnpgcaaaDoor
