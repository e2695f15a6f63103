/- Holds drawn. -/
import Derived.Test.YtgajgjhanpnbdaaHb
import Derived.Test.YtgajgjhanpnbdaaB4
set_option linter.unusedSimpArgs false
set_option linter.unusedVariables false
namespace Go.Proofs.Ytgajgjhanpnbdaa
open Go.RowKit

theorem infoHold : (Try.prog.info? 47).map (fun i => (i.zero, i.size, i.bytes)) = some (some (.agg #[.int .i64 0, .int .i64 0, .int .i64 0]), 3, 24) := by kernel_rfl
def HoldD.sm (x : HoldD) : Prop := 0 ≤ x.h ∧ x.h ≤ 600 ∧ Sm x.f x.b

set_option maxHeartbeats 1000000 in
theorem l92Holds_any (r k : Nat) (w : World) (hR : Rd w r k) (hk : k ≤ 700000) :
    Calls Try.prog 61 #[.pointer (some ⟨r, 0, none⟩)] w fun e w' => ∃ (v : Value) (L : List HoldD), e = .returned v ∧ Rows w' v 3 HoldD.enc L ∧ Fresh w.heap.size v ∧ L.length ≤ 4 ∧ (∀ x ∈ L, x.sm) ∧ (∃ k', k' ≤ k + 100 ∧ Rd w' r k') ∧ Kp r w w' := by
  have hr := hR.lt
  obtain ⟨i0, hi, hz0, hz1, hz2⟩ := info_parts infoHold
  have hF := Fr.start r w
  go_enter Try.func61, Try.ntmps61
  go_wp2_with fail
  have hO : (w.alloc (.cells #[] 47)).ownsRow w.heap.size 47 3 (.slice (some ⟨w.heap.size, 0, none⟩) 0 0) 0 [] := World.ownsRow_made (hb := Nat.le_refl _) (hm := Nat.zero_le _) (hs := rfl)
  replace hF := hF.other (.cells #[] 47)
  refine (pick_any r _ _ _ (hR.alloc _) (by omega) (by omega) (by omega)).mono ?_; rintro e w1 ⟨m0, rfl, u0, l0, hR1, hK1⟩
  replace hF := hF.call hK1
  replace hO := own_kp hO hK1 hr
  clear hR hK1
  obtain ⟨m0, rfl⟩ := Int.eq_ofNat_of_zero_le u0
  go_wp2_with fail
  go_loopw [3, 4] (fun v i wr => ∃ (m k' : Nat) (L : List HoldD), i = .int .i64 m ∧ L.length + m ≤ 4 ∧ k' + 12 * m ≤ k + 60 ∧ wr.ownsRow w.heap.size 47 3 v L.length (L.flatMap HoldD.enc) ∧ Hid (∀ x ∈ L, x.sm) ∧ Rd wr r k' ∧ Fr r w wr []) (fun _ i _ => (intOf i).toNat)
  case atStart => exact ⟨m0, k + 1, [], rfl, by simp; omega, by omega, hO, fun x h => (by cases h), hR1, hF⟩
  case round =>
    clear hF hR1 hO
    obtain ⟨m, k', L, rfl, hL, hk', hO, hS, hR, hF⟩ := hrel
    have hsz := hF.kp.size
    by_cases hm : 0 < m
    · have hm' : 0 < (m : Int) := by omega
      have hmp : ((m : Int) - 1) = ((m - 1 : Nat) : Int) := by omega
      have HM := Lib.hid hmp; clear hmp
      go_wp2_with (first | (go_at_call 45; go_must (refine (pick_any r _ _ _ hR (by omega) (by omega) (by omega)).mono ?_); rintro e wx ⟨vx, rfl, ux, lx, hRx, hKx⟩; replace hF := hF.call hKx; replace hR := hRx; (try replace hO := own_kp hO hKx hr); clear hRx hKx) | (go_at_call 44; go_must (refine (l91Range_any r _ _ hR (by omega)).mono ?_); rintro e wx ⟨fx, bx, rfl, flx, fhx, blx, bhx, ⟨kx, hkx, hRx⟩, hKx⟩; replace hF := hF.call hKx; replace hR := hRx; (try replace hO := own_kp hO hKx hr); clear hRx hKx) | (at_builtin; refine wpList_append_own _ rfl _ _ 42 rfl w.heap.size 47 i0 (.agg #[.int .i64 0, .int .i64 0, .int .i64 0]) 3 24 Try.underlying42 hi hz0 hz1 hz2 rfl (by decide) _ _ _ rfl (hO.alloc _) ⟨_, 0, none⟩ 1 1 (HoldD.enc ⟨_, _, _⟩) rfl rfl (cells_new _ _ _) (by simp [HoldD.enc, Value.oneCell']) (le_maxLen (by omega)) (by omega) (by have := hF.kp.size; simp only [World.size_alloc]; omega) ?_; intro v' wa hO1 hg1 hz9; clear hz9; have hb1 := own_grown (hO.alloc _) hg1 (by have := hF.kp.size; simp only [World.size_alloc]; omega); replace hO := hO1; clear hO1 hg1))
      replace hF := (hF.other (.cells #[.int .i64 (1 + vx), .int .i64 fx, .int .i64 bx] 47)).belowB hb1 (Nat.le_refl _) (by simp)
      replace hR := (hR.alloc (.cells #[.int .i64 (1 + vx), .int .i64 fx, .int .i64 bx] 47)).below hb1 hr
      have hS' : Hid (∀ x ∈ L ++ [⟨1 + vx, fx, bx⟩], x.sm) := by
        intro x hx
        rcases List.mem_append.1 hx with h | h
        · exact hS.out x h
        · rw [List.mem_singleton.1 h]; exact ⟨by dsimp only; omega, by dsimp only; omega, by dsimp only; omega, by dsimp only; omega, by dsimp only; omega, by dsimp only; omega⟩
      go_roundw
      case rel => exact ⟨m - 1, kx, L ++ [⟨1 + vx, fx, bx⟩], by rw [← HM.out], by simp; omega, by omega, by have := hO; rw [flat_snoc] at this; simpa using this, hS', hR, hF⟩
      case measure => simp [intOf]; omega
    · obtain rfl : m = 0 := by omega
      go_wp2
      go_ret
      exact ⟨_, L, rfl, Rows.of_own hO (fun _ => rfl) rfl rfl, fresh_own hO, by omega, hS.out, ⟨k', by omega, hR⟩, hF.kp⟩
end Go.Proofs.Ytgajgjhanpnbdaa
