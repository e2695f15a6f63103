/- What the range laws draw; a range of a number. -/
import Derived.Test.YtgajgjhanpnbdaaDc
set_option linter.unusedSimpArgs false
set_option linter.unusedVariables false
namespace Go.Proofs.Ytgajgjhanpnbdaa
open Go.RowKit

theorem drawIn_any (v : Value) (w : World) (h : Given w v) :
    Calls Try.prog 21 #[v] w fun e w' => ∃ a b c d : Int, e = .returned (.tuple #[.agg #[.int .i64 a, .int .i64 b], .agg #[.int .i64 c, .int .i64 d]]) ∧ Sm a b ∧ Sm c d ∧ Below w.heap.size w w' := by
  have hF := ((Fr.start (w.heap.size + 2) w).alloc' [.int .i64 0, .int .i64 0] 24 (by omega)).alloc' [.int .i64 0, .int .i64 0] 24 (by simp)
  have hG := (h.alloc (.cells #[.int .i64 0, .int .i64 0] 24)).alloc (.cells #[.int .i64 0, .int .i64 0] 24)
  go_enter Try.func21, Try.ntmps21
  go_wp2_with fail
  refine (open_any v _ hG).mono ?_; rintro e w1 ⟨rfl, hR, hb1⟩
  simp only [World.size_alloc] at hR
  replace hF := hF.below hb1
  go_wp2_with fail
  refine (l91Two_any _ 0 _ hR (by omega)).mono ?_; rintro e w2 ⟨a, b, c, d, rfl, sA, sC, -, hK⟩
  replace hF := hF.call hK
  have o := hF.own; simp only [World.size_alloc, World.size_drew, World.size_setCell, List.mem_cons, List.not_mem_nil, or_false, forall_eq_or_imp, forall_eq, At, and_true, Nat.zero_add, Nat.reduceAdd, List.set_cons_zero, List.set_cons_succ] at o
  go_wp2
  exact bodyPost_ret (v := .tuple #[.agg #[.int .i64 a, .int .i64 b], .agg #[.int .i64 c, .int .i64 d]]) (by simp [results, Try.results21, go_sem, o]) rfl ⟨a, b, c, d, rfl, sA, sC, by have kp := hF.kp; repeat (first | (refine Below.setCell ?_ (by dsimp only; omega) _) | exact kp.below (by omega) (Nat.le_refl _))⟩
theorem drawCmp_any (v : Value) (w : World) (h : Given w v) :
    Calls Try.prog 28 #[v] w fun e w' => ∃ a b c d : Int, e = .returned (.tuple #[.agg #[.int .i64 a, .int .i64 b], .agg #[.int .i64 c, .int .i64 d]]) ∧ Sm a b ∧ Sm c d ∧ Below w.heap.size w w' := by
  have hF := ((Fr.start (w.heap.size + 2) w).alloc' [.int .i64 0, .int .i64 0] 24 (by omega)).alloc' [.int .i64 0, .int .i64 0] 24 (by simp)
  have hG := (h.alloc (.cells #[.int .i64 0, .int .i64 0] 24)).alloc (.cells #[.int .i64 0, .int .i64 0] 24)
  go_enter Try.func28, Try.ntmps28
  go_wp2_with fail
  refine (open_any v _ hG).mono ?_; rintro e w1 ⟨rfl, hR, hb1⟩
  simp only [World.size_alloc] at hR
  replace hF := hF.below hb1
  go_wp2_with fail
  refine (l91Two_any _ 0 _ hR (by omega)).mono ?_; rintro e w2 ⟨a, b, c, d, rfl, sA, sC, -, hK⟩
  replace hF := hF.call hK
  have o := hF.own; simp only [World.size_alloc, World.size_drew, World.size_setCell, List.mem_cons, List.not_mem_nil, or_false, forall_eq_or_imp, forall_eq, At, and_true, Nat.zero_add, Nat.reduceAdd, List.set_cons_zero, List.set_cons_succ] at o
  go_wp2
  exact bodyPost_ret (v := .tuple #[.agg #[.int .i64 a, .int .i64 b], .agg #[.int .i64 c, .int .i64 d]]) (by simp [results, Try.results28, go_sem, o]) rfl ⟨a, b, c, d, rfl, sA, sC, by have kp := hF.kp; repeat (first | (refine Below.setCell ?_ (by dsimp only; omega) _) | exact kp.below (by omega) (Nat.le_refl _))⟩

/-- The range of a number. -/
def lyF (n : Int) : Int := n * 37 % 256 / sz (n % 9) * sz (n % 9)
theorem lyRange_any (n : Nat) (hn : n ≤ 2000000) (w : World) :
    Calls Try.prog 24 #[.int .i64 n] w fun e w' => e = .returned (.agg #[.int .i64 (lyF n), .int .i64 ((n : Int) % 9)]) ∧ Below w.heap.size w w' := by
  have q0 : 0 ≤ (n : Int) % 9 := by omega
  have q1 : (n : Int) % 9 < 9 := by omega
  have q2 : 0 ≤ (n : Int) * 37 % 256 := by omega
  have q3 : (n : Int) * 37 % 256 < 256 := by omega
  obtain ⟨m, hm⟩ := Int.eq_ofNat_of_zero_le q0
  have hm1 : (n : Int) % 9 ≤ m := by omega
  have hm2 : (m : Int) ≤ (n : Int) % 9 := by omega
  have hm8 : m < 9 := by omega
  have HM := Lib.hid hm
  have s1 := sz_pos m
  have s2 := sz_le m (by omega)
  have z1 : 0 ≤ (n : Int) * 37 % 256 / sz m := Int.ediv_nonneg q2 (by omega)
  have z2 : (n : Int) * 37 % 256 / sz m * sz m ≤ (n : Int) * 37 % 256 := Int.ediv_mul_le _ (by omega)
  have z3 : 0 ≤ (n : Int) * 37 % 256 / sz m * sz m := Int.mul_nonneg z1 (by omega)
  have z4 : (n : Int) * 37 % 256 / sz m ≤ (n : Int) * 37 % 256 := Int.ediv_le_self _ q2
  have hly : lyF n = (n : Int) * 37 % 256 / sz m * sz m := by unfold lyF; rw [hm]
  have HL := Lib.hid hly
  clear hm hly
  go_enter Try.func24, Try.ntmps24
  go_wp2
  go_loop [4, 5] (fun s i => ∃ k : Nat, k ≤ m ∧ i = .int .i64 k ∧ s = .int .i64 (sz k)) (fun _ i => m - (intOf i).toNat)
  case atStart => exact ⟨0, Nat.zero_le _, rfl, rfl⟩
  case round =>
    obtain ⟨k, hk, rfl, rfl⟩ := hrel
    have h1 := sz_pos k
    have h2 := sz_le k (by omega)
    by_cases hlt : k < m
    · have hlt' : (k : Int) < (n : Int) % 9 := by omega
      go_wp2
      go_round
      case rel => exact ⟨k + 1, by omega, by go_num, by rw [← sz_step k (by omega)]; skip⟩
      case measure => simp [intOf]; omega
    · obtain rfl : k = m := by omega
      have hge : ¬ (k : Int) < (n : Int) % 9 := by omega
      go_wp2
      exact bodyPost_ret (v := .agg #[.int .i64 (lyF n), .int .i64 ((n : Int) % 9)]) (by simp [results, Try.results24, go_sem, HL.out]) rfl ⟨rfl, (by repeat (first | exact Below.refl _ _ | assumption | (refine Below.setCell ?_ (by dsimp only; omega) _) | (refine Below.alloc ?_ (by first | (simp only [World.size_alloc, World.size_setCell, World.size_drew]; omega) | omega) _) | apply Below.drew | (refine Below.trans ?_ (Below.mono (by assumption) (by first | (simp only [World.size_alloc, World.size_setCell, World.size_drew]; omega) | omega)))))⟩
end Go.Proofs.Ytgajgjhanpnbdaa
