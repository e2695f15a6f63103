/- The reader's walks: pick, l6Open. -/
import Derived.Test.YtgegmampnpgcaaaDoorRows
import Derived.Test.YtgegmampnpgcaaaDoorB1
set_option linter.unusedSimpArgs false
set_option linter.unusedVariables false
namespace Go.Proofs.YtgegmampnpgcaaaDoor
open Go.RowKit

set_option maxHeartbeats 1000000 in
theorem pick_any (r k : Nat) (N : Int) (w : World) (h : Rd w r k) (hk : k ≤ 1000000) (hN : 1 ≤ N) (hN' : N ≤ 1000000) :
    Calls Tryd.prog 52 #[.pointer (some ⟨r, 0, none⟩), .int .i64 N] w fun e w' => ∃ v : Int, e = .returned (.int .i64 v) ∧ 0 ≤ v ∧ v < N ∧ Rd w' r (k + 1) ∧ Kp r w w' := by
  have hR := Lib.hid h.step
  have hR' := Lib.hid ((Kp.refl r w).setCell (p := ⟨r, 1, none⟩) (Or.inr rfl) (.int .i64 ((k : Int) + 1)))
  obtain ⟨hf, h1, v, n, h0, hn, ao, cap, rfl, hz⟩ := h
  have hN1 : decide (N < 1) = false := by simp; omega
  by_cases hn0 : n = 0
  · subst hn0
    go_enter Tryd.func52, Tryd.ntmps52
    go_wp2
    go_ret
    exact ⟨0, rfl, by omega, by omega, hR.out, hR'.out⟩
  · obtain ⟨b, off, zs, rfl, hbr, hc⟩ := hz (by omega)
    have hbr1 : ¬ b = r := by omega
    have hbr2 : ¬ r = b := by omega
    clear hz
    have e0 : decide (n = 0) = false := by simp [hn0]
    have e1 : ((n : Int) == 0) = false := by simp [hn0]
    by_cases hkn : k < n
    · obtain ⟨hc1, hc2, hc3⟩ := hc k hkn
      go_enter Tryd.func52, Tryd.ntmps52
      go_wp2
      go_ret
      exact ⟨_, rfl, Int.emod_nonneg _ (by omega), Int.emod_lt_of_pos _ (by omega), hR.out, hR'.out⟩
    · have q0 : (0:Int) < n := by omega
      have q1 : 0 ≤ (k : Int) % n := Int.emod_nonneg _ (by omega)
      have q2 : (k : Int) % n < n := Int.emod_lt_of_pos _ q0
      have q3 : 0 ≤ ((k : Int) * 7 + 3) % n := Int.emod_nonneg _ (by omega)
      have q4 : ((k : Int) * 7 + 3) % n < n := Int.emod_lt_of_pos _ q0
      have q5 : 0 ≤ (k : Int) / n := Int.ediv_nonneg (by omega) (by omega)
      have q6 : (k : Int) / n ≤ 1000000 := Int.le_trans (Int.ediv_le_self _ (by omega)) (by omega)
      obtain ⟨hd1, hd2, hd3⟩ := hc (k % n) (Nat.mod_lt _ (by omega))
      obtain ⟨he1, he2, he3⟩ := hc ((k * 7 + 3) % n) (Nat.mod_lt _ (by omega))
      clear hc
      have hx := xor_i64 (zs (k % n) * 131 + zs ((k * 7 + 3) % n) * 1117 + k * 29 + k / n * 53) (by omega) (by omega)
      go_enter Tryd.func52, Tryd.ntmps52
      go_wp2
      go_quiet (fail)
      go_wp2
      go_ret
      exact ⟨_, rfl, Int.emod_nonneg _ (by omega), Int.emod_lt_of_pos _ (by omega), hR.out.drewN, hR'.out.drewN⟩

theorem open_any (v : Value) (w : World) (h : Given w v) :
    Calls Tryd.prog 36 #[v] w fun e w' => e = .returned (.pointer (some ⟨w.heap.size, 0, none⟩)) ∧ Rd w' w.heap.size 0 ∧ Below w.heap.size w w' := by
  obtain ⟨ao, n, cap, rfl, hnc, hcap, hz⟩ := h
  by_cases hn : 2000 < n
  · have hd : decide (2000 < (n : Int)) = true := by simp; omega
    obtain ⟨b, off, zs, rfl, hb, hc⟩ := hz (by omega)
    have hB : Bytes w (.slice (some ⟨b, off, none⟩) 2000 cap) 2000 w.heap.size := ⟨Nat.le_refl _, _, _, rfl, fun _ => ⟨b, off, zs, rfl, hb, fun i hi => hc i (by omega)⟩⟩
    clear hz hc
    go_enter Tryd.func36, Tryd.ntmps36
    go_wp2
    go_ret
    exact ⟨rfl, Rd.opened hB _, (Below.refl _ _).alloc (Nat.le_refl _) _⟩
  · have hd : decide (2000 < (n : Int)) = false := by simp; omega
    have hB : Bytes w (.slice ao n cap) n w.heap.size := ⟨by omega, _, _, rfl, hz⟩
    clear hz
    go_enter Tryd.func36, Tryd.ntmps36
    go_wp2
    go_ret
    exact ⟨rfl, Rd.opened hB _, (Below.refl _ _).alloc (Nat.le_refl _) _⟩
end Go.Proofs.YtgegmampnpgcaaaDoor
