/- Relations: the reference's functions, more. -/
import Derived.Test.YtfckmgeakdbdfaaMb
set_option linter.unusedSimpArgs false
set_option linter.unusedVariables false
namespace Go.Proofs.Ytfckmgeakdbdfaa
open Go.RowKit

theorem Mat.sl {w : World} {v : Value} {M : List (List Int)} (h : Mat w v M) : ∃ ao n cap, v = .slice ao n cap ∧ Hid (M.length = n) ∧ n ≤ 9223372036854775807 := by
  obtain ⟨n, cap, hn, h1, h2, ⟨h0, ao, rfl⟩ | ⟨h0, b, off, rfl⟩⟩ := h.cases
  · exact ⟨_, _, _, rfl, hn, by omega⟩
  · exact ⟨_, _, _, rfl, hn, by omega⟩

theorem l12Of_any (v : Value) (M : List (List Int)) (a b : Nat) (w : World) (hM : Mat w v M) (ha : a < M.length) (hb : b < (M.getD a []).length) :
    Calls Try.prog 44 #[v, .int .i64 ((a : Int) + 1), .int .i64 ((b : Int) + 1)] w fun e w' => e = .returned (.int .i64 (mget M a b)) ∧ Below w.heap.size w w' := by
  obtain ⟨n, cap, hn, hnc, hcap, ⟨hn0, ao, rfl⟩ | ⟨hn0, b0, off, rfl⟩⟩ := hM.cases
  · exfalso; have := hn.out; omega
  obtain ⟨ai, mi, ci, hci, hmi, hri, hmc, hcc⟩ := hM.at (k := a) ha
  obtain ⟨bi, oi, rfl⟩ := hri.some (by have := hmi.out; omega)
  have f3 := Ints.getD hri (k := b) hb
  have e3 : mget M a b = (M.getD a []).getD b 0 := rfl
  rw [← e3] at f3
  have h1 : a < n := by have := hn.out; omega
  have h2 : b < mi := by have := hmi.out; omega
  have h3 : (a : Int) + 1 ≤ 9223372036854775807 := by omega
  have h4 : (b : Int) + 1 ≤ 9223372036854775807 := by omega
  clear hri hM e3 ha hb
  go_enter Try.func44, Try.ntmps44
  go_wp2
  go_ret
  exact ⟨rfl, Below.refl _ _⟩
/-- What the house b is to the house a. -/
def mgi (M : List (List Int)) (a b : Int) : Int := mget M (a - 1).toNat (b - 1).toNat
theorem l12Of_i (v : Value) (M : List (List Int)) (a b : Int) (w : World) (hM : Mat w v M) (h1 : 1 ≤ a) (hp : (M.getD (a - 1).toNat []).length = M.length) (h2 : a ≤ M.length) (h3 : 1 ≤ b) (h4 : b ≤ M.length) :
    Calls Try.prog 44 #[v, .int .i64 a, .int .i64 b] w fun e w' => e = .returned (.int .i64 (mgi M a b)) ∧ Below w.heap.size w w' := by
  have := l12Of_any v M (a - 1).toNat (b - 1).toNat w hM (by omega) (by omega)
  rw [show (((a - 1).toNat : Nat) : Int) + 1 = a by omega, show (((b - 1).toNat : Nat) : Int) + 1 = b by omega] at this
  exact this
theorem RelsP.row {M : List (List Int)} (h : RelsP M) {i : Nat} (hi : i < M.length) : (M.getD i []).length = M.length := (h.1 i hi).1
theorem l12Of_r (v : Value) (M : List (List Int)) (n : Nat) (hn : Hid (M.length = n)) (hp : Hid (RelsP M)) (a b : Int) (w : World) (hM : Mat w v M) (ha : Bts a 1 n) (hb : Bts b 1 n) :
    Calls Try.prog 44 #[v, .int .i64 a, .int .i64 b] w fun e w' => e = .returned (.int .i64 (mgi M a b)) ∧ Below w.heap.size w w' := by
  obtain ⟨a1, a2⟩ := ha
  obtain ⟨b1, b2⟩ := hb
  have := hn.out
  exact l12Of_i v M a b w hM a1 (hp.out.row (by omega)) (by omega) b1 (by omega)

/-- What RelOf says. -/
def relof (M : List (List Int)) (a b : Int) : Int := if RelsP M ∧ Bts a 1 M.length ∧ Bts b 1 M.length then mgi M a b else 0
theorem mgi_bd {M : List (List Int)} (h : RelsP M) {a b : Int} (ha : Bts a 1 M.length) (hb : Bts b 1 M.length) : Bts (mgi M a b) 0 3 := by
  obtain ⟨a1, a2⟩ := ha
  obtain ⟨b1, b2⟩ := hb
  exact ((h.1 (a - 1).toNat (by omega)).2 (b - 1).toNat (by omega)).2.1
theorem mgi_back {M : List (List Int)} (h : RelsP M) {a b : Int} (ha : Bts a 1 M.length) (hb : Bts b 1 M.length) : mgi M b a = bk (mgi M a b) := by
  obtain ⟨a1, a2⟩ := ha
  obtain ⟨b1, b2⟩ := hb
  exact ((h.1 (a - 1).toNat (by omega)).2 (b - 1).toNat (by omega)).2.2.1
theorem mgi_self {M : List (List Int)} (h : RelsP M) {a : Int} (ha : Bts a 1 M.length) : mgi M a a = 0 := by
  obtain ⟨a1, a2⟩ := ha
  exact ((h.1 (a - 1).toNat (by omega)).2 (a - 1).toNat (by omega)).2.2.2 rfl
theorem relof_bd (M : List (List Int)) (a b : Int) : Bts (relof M a b) 0 3 := by
  unfold relof
  split
  · rename_i h; exact mgi_bd h.1 h.2.1 h.2.2
  · exact ⟨by omega, by omega⟩
theorem relof_back {M : List (List Int)} {a b : Int} : relof M b a = bk (relof M a b) := by
  unfold relof
  by_cases h : RelsP M ∧ Bts a 1 M.length ∧ Bts b 1 M.length
  · rw [if_pos h, if_pos ⟨h.1, h.2.2, h.2.1⟩]; exact mgi_back h.1 h.2.1 h.2.2
  · rw [if_neg h, if_neg (fun g => h ⟨g.1, g.2.2, g.2.1⟩)]; rfl
theorem relof_self {M : List (List Int)} {a : Int} : relof M a a = 0 := by
  unfold relof; split
  · rename_i h; exact mgi_self h.1 h.2.1
  · rfl

set_option maxHeartbeats 1000000 in
theorem sRelOf_any (v : Value) (M : List (List Int)) (a b : Int) (w : World) (hM : Mat w v M) :
    Calls Try.prog 18 #[v, .int .i64 a, .int .i64 b] w fun e w' => e = .returned (.int .i64 (relof M a b)) ∧ Below w.heap.size w w' := by
  obtain ⟨ao, n, cap, rfl, hn, hn63⟩ := hM.sl
  have hF := Fb.start w
  by_cases hp : RelsP M
  · have d1 : decide (RelsP M) = true := by simp [hp]
    have HP := Lib.hid hp
    by_cases ha : Bts a 1 n
    · have d2 : decide (Bts a 1 n) = true := by simp [ha]
      by_cases hb : Bts b 1 n
      · have d3 : decide (Bts b 1 n) = true := by simp [hb]
        have hr : relof M a b = mgi M a b := by unfold relof; rw [if_pos ⟨hp, by rw [hn.out]; exact ha, by rw [hn.out]; exact hb⟩]
        rw [hr]
        clear hp hr
        go_enter Try.func18, Try.ntmps18
        go_wp2_with (first | (go_at_call 15; go_must (refine (sRelsOk_any _ M _ hM).mono ?_); rintro e wx ⟨rfl, hbx⟩; replace hF := hF.below hbx; replace hM := hM.below hbx; clear hbx) | (go_at_call 41; go_must (refine (l6In_any _ _ _ _).mono ?_); rintro e wx ⟨rfl, hbx⟩; replace hF := hF.below hbx; replace hM := hM.below hbx; clear hbx) | (go_at_call 44; go_must (refine (l12Of_r _ M n hn HP _ _ _ hM (by assumption) (by assumption)).mono ?_); rintro e wx ⟨rfl, hbx⟩; replace hF := hF.below hbx; replace hM := hM.below hbx; clear hbx))
        go_ret
        exact ⟨rfl, hF.kp⟩
      · have d3 : decide (Bts b 1 n) = false := by simp [hb]
        have hr : relof M a b = 0 := by unfold relof; rw [if_neg (fun g => hb (by have := g.2.2; rw [hn.out] at this; exact this))]
        rw [hr]
        clear hp hr hb
        go_enter Try.func18, Try.ntmps18
        go_wp2_with (first | (go_at_call 15; go_must (refine (sRelsOk_any _ M _ hM).mono ?_); rintro e wx ⟨rfl, hbx⟩; replace hF := hF.below hbx; replace hM := hM.below hbx; clear hbx) | (go_at_call 41; go_must (refine (l6In_any _ _ _ _).mono ?_); rintro e wx ⟨rfl, hbx⟩; replace hF := hF.below hbx; replace hM := hM.below hbx; clear hbx) | (go_at_call 44; go_must (refine (l12Of_r _ M n hn HP _ _ _ hM (by assumption) (by assumption)).mono ?_); rintro e wx ⟨rfl, hbx⟩; replace hF := hF.below hbx; replace hM := hM.below hbx; clear hbx))
        go_ret
        exact ⟨rfl, hF.kp⟩
    · have d2 : decide (Bts a 1 n) = false := by simp [ha]
      have hr : relof M a b = 0 := by unfold relof; rw [if_neg (fun g => ha (by have := g.2.1; rw [hn.out] at this; exact this))]
      rw [hr]
      clear hp hr ha
      go_enter Try.func18, Try.ntmps18
      go_wp2_with (first | (go_at_call 15; go_must (refine (sRelsOk_any _ M _ hM).mono ?_); rintro e wx ⟨rfl, hbx⟩; replace hF := hF.below hbx; replace hM := hM.below hbx; clear hbx) | (go_at_call 41; go_must (refine (l6In_any _ _ _ _).mono ?_); rintro e wx ⟨rfl, hbx⟩; replace hF := hF.below hbx; replace hM := hM.below hbx; clear hbx) | (go_at_call 44; go_must (refine (l12Of_r _ M n hn HP _ _ _ hM (by assumption) (by assumption)).mono ?_); rintro e wx ⟨rfl, hbx⟩; replace hF := hF.below hbx; replace hM := hM.below hbx; clear hbx))
      go_ret
      exact ⟨rfl, hF.kp⟩
  · have d1 : decide (RelsP M) = false := by simp [hp]
    have hr : relof M a b = 0 := by unfold relof; rw [if_neg (fun g => hp g.1)]
    rw [hr]
    clear hp hr
    go_enter Try.func18, Try.ntmps18
    go_wp2_with (first | (go_at_call 15; go_must (refine (sRelsOk_any _ M _ hM).mono ?_); rintro e wx ⟨rfl, hbx⟩; replace hF := hF.below hbx; replace hM := hM.below hbx; clear hbx) | (go_at_call 41; go_must (refine (l6In_any _ _ _ _).mono ?_); rintro e wx ⟨rfl, hbx⟩; replace hF := hF.below hbx; replace hM := hM.below hbx; clear hbx) | (go_at_call 44; go_must (refine (l12Of_r _ M n hn HP _ _ _ hM (by assumption) (by assumption)).mono ?_); rintro e wx ⟨rfl, hbx⟩; replace hF := hF.below hbx; replace hM := hM.below hbx; clear hbx))
    go_ret
    exact ⟨rfl, hF.kp⟩
end Go.Proofs.Ytfckmgeakdbdfaa
