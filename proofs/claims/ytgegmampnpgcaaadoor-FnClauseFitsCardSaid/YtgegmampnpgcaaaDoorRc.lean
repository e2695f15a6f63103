/- cmp.Compare, cmp.Or. -/
import Derived.Test.YtgegmampnpgcaaaDoorKa
set_option linter.unusedSimpArgs false
set_option linter.unusedVariables false
namespace Go.Proofs.YtgegmampnpgcaaaDoor
open Go.RowKit

/-- Of two numbers: which is less. -/
def icmp (a b : Int) : Int := if a < b then -1 else if b < a then 1 else 0
theorem icmp_bd (a b : Int) : -1 ≤ icmp a b ∧ icmp a b ≤ 1 := by unfold icmp; split <;> (try split) <;> omega
theorem isNaN_any (a : Int) (w : World) : Calls Tryd.prog 84 #[.int .i64 a] w fun e w' => e = .returned (.bool false) ∧ w = w' := by
  go_enter Tryd.func84, Tryd.ntmps84
  go_wp2
  go_ret
  exact ⟨by simp, rfl⟩
theorem compare_any (a b : Int) (w : World) : Calls Tryd.prog 60 #[.int .i64 a, .int .i64 b] w fun e w' => e = .returned (.int .i64 (icmp a b)) ∧ w = w' := by
  rcases Int.lt_trichotomy a b with h | rfl | h
  · have e : icmp a b = -1 := by simp [icmp, h]
    rw [e]; clear e
    go_enter Tryd.func60, Tryd.ntmps60
    go_wp2_with (go_at_call 84; refine (isNaN_any _ _).mono ?_; rintro e w' ⟨rfl, rfl⟩)
    go_ret
    exact ⟨rfl, rfl⟩
  · have e : icmp a a = 0 := by simp [icmp]
    rw [e]; clear e
    go_enter Tryd.func60, Tryd.ntmps60
    go_wp2_with (go_at_call 84; refine (isNaN_any _ _).mono ?_; rintro e w' ⟨rfl, rfl⟩)
    go_ret
    exact ⟨rfl, rfl⟩
  · have e : icmp a b = 1 := by unfold icmp; rw [if_neg (by omega), if_pos h]
    have h2 : ¬ a < b := by omega
    rw [e]; clear e
    go_enter Tryd.func60, Tryd.ntmps60
    go_wp2_with (go_at_call 84; refine (isNaN_any _ _).mono ?_; rintro e w' ⟨rfl, rfl⟩)
    go_ret
    exact ⟨rfl, rfl⟩
/-- The first that is not nought. -/
def orI (zs : List Int) : Int := (zs.find? (· != 0)).getD 0
theorem orI_at (zs : List Int) : ∀ k, (∀ i, i < k → zs.getD i 0 = 0) → (k < zs.length → zs.getD k 0 ≠ 0) → orI zs = zs.getD k 0 := by
  induction zs with
  | nil => intro k _ _; simp [orI]
  | cons z zs ih =>
    intro k h0 h1
    cases k with
    | zero => have := h1 (by simp); simp at this; simp [orI, List.find?_cons, this]
    | succ k =>
      have e : z = 0 := by simpa using h0 0 (by omega)
      have := ih k (fun i hi => by simpa using h0 (i + 1) (by omega)) (fun hk => by simpa using h1 (by simpa using hk))
      simpa [orI, List.find?_cons, e] using this
theorem orI_nil : orI [] = 0 := rfl
theorem orI_cons (z : Int) (zs : List Int) : orI (z :: zs) = if z = 0 then orI zs else z := by
  by_cases h : z = 0
  · simp [orI, List.find?_cons, h]
  · have : (z != 0) = true := by simpa using h
    simp [orI, List.find?_cons, this, h]
theorem or_any (b off cap : Nat) (zs : List Int) (w : World) (hc : ∀ i : Nat, i < zs.length → w.cell? ⟨b, off + i, none⟩ = some (.int .i64 (zs.getD i 0))) (hn : zs.length ≤ 1000000) :
    Calls Tryd.prog 59 #[.slice (some ⟨b, off, none⟩) zs.length cap] w fun e w' => e = .returned (.int .i64 (orI zs)) ∧ w = w' := by
  have hm := Lib.hid (orI_at zs)
  generalize hN : zs.length = N at *
  have HN := Lib.hid hN; clear hN
  go_enter Tryd.func59, Tryd.ntmps59
  go_wp2
  go_loop [8, 5] (fun i _ => ∃ k : Nat, k ≤ N ∧ i = .int .i64 k ∧ ∀ j, j < k → zs.getD j 0 = 0) (fun i _ => N - (intOf i).toNat)
  case atStart => exact ⟨0, Nat.zero_le _, rfl, fun j hj => by omega⟩
  case round =>
    obtain ⟨k, hk, rfl, hz⟩ := hrel
    have hz' := Lib.hid hz; clear hz
    have hcell : k < N → w.cell? ⟨b, off + k, none⟩ = some (.int .i64 (zs.getD k 0)) := hc k
    clear hc
    have HD : Hid (∃ z, z = zs.getD k 0) := ⟨_, rfl⟩
    obtain ⟨z, hz⟩ := HD.out
    rw [← hz] at hcell
    have HZ := Lib.hid hz; clear hz HD
    go_wp2
    · go_ret
      have h1 : (z != 0) = true := by assumption
      have h2 : k < N := by assumption
      refine ⟨ret_int ?_, rfl⟩
      rw [hm.out k hz'.out (fun _ => by rw [← HZ.out]; simpa using h1)]; exact HZ.out
    · have h1 : (z != 0) = false := by assumption
      have h2 : k < N := by assumption
      go_round
      case rel =>
        refine ⟨k + 1, by omega, by go_num, fun j hj => ?_⟩
        by_cases e : j = k
        · rw [e, ← HZ.out]; simpa using h1
        · exact hz'.out j (by omega)
      case measure => simp [intOf]; omega
    · go_ret
      refine ⟨ret_int ?_, rfl⟩
      have h2 : ¬ k < N := by assumption
      rw [hm.out k hz'.out (fun h => by omega)]
      have := HN.out
      simp [List.getD]; rw [List.getElem?_eq_none (by omega)]; rfl
end Go.Proofs.YtgegmampnpgcaaaDoor
