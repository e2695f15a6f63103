/- A range of a number. -/
import Derived.Test.YtbhenfegklgkoaaDb
set_option linter.unusedSimpArgs false
set_option linter.unusedVariables false
namespace Go.Proofs.Ytbhenfegklgkoaa
open Go.RowKit

/-- The range of a number. -/
def lyF (n : Int) : Int := n * 37 % 256 / sz (n % 9) * sz (n % 9)
theorem lyRange_any (n : Nat) (hn : n ≤ 2000000) (w : World) :
    Calls Try.prog 35 #[.int .i64 n] w fun e w' => e = .returned (.agg #[.int .i64 (lyF n), .int .i64 ((n : Int) % 9)]) ∧ Below w.heap.size w w' := by
  have q0 : 0 ≤ (n : Int) % 9 := by omega
  have q1 : (n : Int) % 9 < 9 := by omega
  have q2 : 0 ≤ (n : Int) * 37 % 256 := by omega
  have q3 : (n : Int) * 37 % 256 < 256 := by omega
  obtain ⟨m, hm⟩ := Int.eq_ofNat_of_zero_le q0
  have hm1 : (n : Int) % 9 ≤ m := by omega
  have hm2 : (m : Int) ≤ (n : Int) % 9 := by omega
  have hm8 : m < 9 := by omega
  have HM := Lib.hid hm
  have s1 := sz_pos m
  have s2 := sz_le m (by omega)
  have z1 : 0 ≤ (n : Int) * 37 % 256 / sz m := Int.ediv_nonneg q2 (by omega)
  have z2 : (n : Int) * 37 % 256 / sz m * sz m ≤ (n : Int) * 37 % 256 := Int.ediv_mul_le _ (by omega)
  have z3 : 0 ≤ (n : Int) * 37 % 256 / sz m * sz m := Int.mul_nonneg z1 (by omega)
  have z4 : (n : Int) * 37 % 256 / sz m ≤ (n : Int) * 37 % 256 := Int.ediv_le_self _ q2
  have hly : lyF n = (n : Int) * 37 % 256 / sz m * sz m := by unfold lyF; rw [hm]
  have HL := Lib.hid hly
  clear hm hly
  go_enter Try.func35, Try.ntmps35
  go_wp2
  go_loop [4, 5] (fun s i => ∃ k : Nat, k ≤ m ∧ i = .int .i64 k ∧ s = .int .i64 (sz k)) (fun _ i => m - (intOf i).toNat)
  case atStart => exact ⟨0, Nat.zero_le _, rfl, rfl⟩
  case round =>
    obtain ⟨k, hk, rfl, rfl⟩ := hrel
    have h1 := sz_pos k
    have h2 := sz_le k (by omega)
    by_cases hlt : k < m
    · have hlt' : (k : Int) < (n : Int) % 9 := by omega
      go_wp2
      go_round
      case rel => exact ⟨k + 1, by omega, by go_num, by rw [← sz_step k (by omega)]; skip⟩
      case measure => simp [intOf]; omega
    · obtain rfl : k = m := by omega
      have hge : ¬ (k : Int) < (n : Int) % 9 := by omega
      go_wp2
      exact bodyPost_ret (v := .agg #[.int .i64 (lyF n), .int .i64 ((n : Int) % 9)]) (by simp [results, Try.results35, go_sem, HL.out]) rfl ⟨rfl, (by repeat (first | exact Below.refl _ _ | assumption | (refine Below.setCell ?_ (by dsimp only; omega) _) | (refine Below.alloc ?_ (by first | (simp only [World.size_alloc, World.size_setCell, World.size_drew]; omega) | omega) _) | apply Below.drew | (refine Below.trans ?_ (Below.mono (by assumption) (by first | (simp only [World.size_alloc, World.size_setCell, World.size_drew]; omega) | omega)))))⟩
end Go.Proofs.Ytbhenfegklgkoaa
