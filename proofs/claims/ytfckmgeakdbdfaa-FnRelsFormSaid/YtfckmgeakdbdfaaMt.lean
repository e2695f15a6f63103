/- Relations drawn: what the laws draw. -/
import Derived.Test.YtfckmgeakdbdfaaMs
import Derived.Test.YtfckmgeakdbdfaaMi
set_option linter.unusedSimpArgs false
set_option linter.unusedVariables false
namespace Go.Proofs.Ytfckmgeakdbdfaa
open Go.RowKit

/-- A drawn matrix: square, of two to five rows, of small numbers. -/
def Sq (M : List (List Int)) : Prop := 2 ≤ M.length ∧ M.length ≤ 5 ∧ ∀ r ∈ M, r.length = M.length ∧ ∀ x ∈ r, 0 ≤ x ∧ x ≤ 9
theorem MatO.sq {E : TypeId} {w : World} {B n : Nat} {v : Value} {vs : List Value} (h : MatO E w B n v vs) (hv : vs.length = n) (h2 : 2 ≤ n) (h5 : n ≤ 5) : ∃ M, Mat w v M ∧ M.length = n ∧ Sq M := by
  obtain ⟨M, h1, h3, h4⟩ := h.mat
  have e : M.length = n := h3.trans hv
  exact ⟨M, h1, e, by omega, by omega, by rw [e]; exact h4⟩

set_option maxHeartbeats 1000000 in
theorem drawRelOf_any (v0 : Value) (w : World) (h : Given w v0) :
    Calls Try.prog 16 #[v0] w fun e w' => ∃ (v : Value) (M : List (List Int)) (a b : Int), e = .returned (.tuple #[v, .int .i64 a, .int .i64 b]) ∧ Mat w' v M ∧ Sq M ∧ 0 ≤ a ∧ a ≤ 6 ∧ 0 ≤ b ∧ b ≤ 6 ∧ Below w.heap.size w w' := by
  have hF := Fr.start (w.heap.size) w
  go_enter Try.func16, Try.ntmps16
  go_wp2_with fail
  refine (open_any v0 _ h).mono ?_; rintro e w1 ⟨rfl, hR, hb1⟩
  have hlt := hR.lt
  clear h
  go_wp2_with fail
  refine (l91Rels_any _ 0 _ hR (by omega)).mono ?_; rintro e w2 ⟨v, vs, n, rfl, hn2, hn5, hvs, hM, ⟨k2, hk2, hR2⟩, hK2⟩
  have hs2 := hK2.size
  go_wp2_with fail
  refine (pick_any _ _ _ _ hR2 (by omega) (by omega) (by omega)).mono ?_; rintro e w3 ⟨v3, rfl, u3, l3, hR3, hK3⟩
  go_wp2_with fail
  refine (pick_any _ _ _ _ hR3 (by omega) (by omega) (by omega)).mono ?_; rintro e w4 ⟨v4, rfl, u4, l4, hR4, hK4⟩
  obtain ⟨M, h1, h3, h4⟩ := ((hM.kp hK3 hlt).kp hK4 hlt).sq hvs hn2 hn5
  have hB : Below w.heap.size w w4 := hb1.trans (((hK2.trans hK3).trans hK4).below (Nat.le_refl _) hb1.size)
  clear hM hK2 hK3 hK4 hR hR2 hR3 hR4 hb1 hF
  go_wp2
  go_ret3
  exact ⟨v, M, v3, v4, rfl, h1, h4, u3, by omega, u4, by omega, hB⟩
set_option maxHeartbeats 1000000 in
theorem drawRelMay_any (v0 : Value) (w : World) (h : Given w v0) :
    Calls Try.prog 19 #[v0] w fun e w' => ∃ (v : Value) (M : List (List Int)) (a b c : Int), e = .returned (.tuple #[v, .int .i64 a, .int .i64 b, .int .i64 c]) ∧ Mat w' v M ∧ Sq M ∧ 1 ≤ a ∧ a ≤ 100 ∧ 0 ≤ b ∧ b ≤ M.length ∧ 1 ≤ c ∧ c ≤ M.length ∧ Below w.heap.size w w' := by
  go_enter Try.func19, Try.ntmps19
  go_wp2_with fail
  refine (open_any v0 _ h).mono ?_; rintro e w1 ⟨rfl, hR, hb1⟩
  have hlt := hR.lt
  clear h
  go_wp2_with fail
  refine (l91Rels_any _ 0 _ hR (by omega)).mono ?_; rintro e w2 ⟨v, vs, n, rfl, hn2, hn5, hvs, hM, ⟨k2, hk2, hR2⟩, hK2⟩
  have hs2 := hK2.size
  obtain ⟨g, cap, rfl, -, -, -⟩ := hM.slice (by omega)
  have HV := Lib.hid hvs
  rw [hvs] at hM ⊢
  clear hvs
  have hN : ((n : Int)) ≤ 5 := by omega
  have hN2 : 2 ≤ (n : Int) := by omega
  go_wp2_with fail
  refine (pick_any _ _ _ _ hR2 (by omega) (by omega) (by omega)).mono ?_; rintro e w3 ⟨v3, rfl, u3, l3, hR3, hK3⟩
  go_wp2_with fail
  refine (pick_any _ _ _ _ hR3 (by omega) (by omega) (by omega)).mono ?_; rintro e w4 ⟨v4, rfl, u4, l4, hR4, hK4⟩
  have hq : v4 / 23 = 0 ∨ v4 / 23 = 1 := by omega
  have hq0 : 0 ≤ v4 / 23 := by omega
  have hq1 : v4 / 23 ≤ 1 := by omega
  clear hq
  go_wp2_with fail
  refine (pick_any _ _ _ _ hR4 (by omega) (by omega) (by omega)).mono ?_; rintro e w5 ⟨v5, rfl, u5, l5, hR5, hK5⟩
  go_wp2_with fail
  refine (pick_any _ _ _ _ hR5 (by omega) (by omega) (by omega)).mono ?_; rintro e w6 ⟨v6, rfl, u6, l6, hR6, hK6⟩
  obtain ⟨M, h1, h3, h4⟩ := ((((hM.kp hK3 hlt).kp hK4 hlt).kp hK5 hlt).kp hK6 hlt).sq HV.out hn2 hn5
  have hB : Below w.heap.size w w6 := hb1.trans (((((hK2.trans hK3).trans hK4).trans hK5).trans hK6).below (Nat.le_refl _) hb1.size)
  clear hM hK2 hK3 hK4 hK5 hK6 hR hR2 hR3 hR4 hR5 hR6 hb1
  go_wp2
  refine bodyPost_ret (v := .tuple #[.slice (some ⟨g, 0, none⟩) n cap, .int .i64 (1 + v3 + v4 / 23 * 5), .int .i64 v5, .int .i64 (1 + v6)]) (by simp [results, Try.results19, go_sem]) rfl ⟨_, M, _, _, _, rfl, h1, h4, by omega, by omega, by omega, by omega, by omega, by omega, hB⟩
theorem drawRels_any (v0 : Value) (w : World) (h : Given w v0) :
    Calls Try.prog 29 #[v0] w fun e w' => ∃ (v : Value) (M : List (List Int)), e = .returned v ∧ Mat w' v M ∧ Sq M ∧ Below w.heap.size w w' := by
  go_enter Try.func29, Try.ntmps29
  go_wp2_with fail
  refine (open_any v0 _ h).mono ?_; rintro e w1 ⟨rfl, hR, hb1⟩
  clear h
  go_wp2_with fail
  refine (l91Rels_any _ 0 _ hR (by omega)).mono ?_; rintro e w2 ⟨v, vs, n, rfl, hn2, hn5, hvs, hM, ⟨k2, hk2, hR2⟩, hK2⟩
  obtain ⟨M, h1, h3, h4⟩ := hM.sq hvs hn2 hn5
  have hB : Below w.heap.size w w2 := hb1.trans (hK2.below (Nat.le_refl _) hb1.size)
  clear hM hK2 hR hR2 hb1
  go_wp2
  go_ret
  exact ⟨v, M, rfl, h1, h4, hB⟩
theorem drawRelsOrder_any (v0 : Value) (w : World) (h : Given w v0) :
    Calls Try.prog 33 #[v0] w fun e w' => ∃ (v : Value) (M : List (List Int)), e = .returned v ∧ Mat w' v M ∧ Sq M ∧ Below w.heap.size w w' := by
  go_enter Try.func33, Try.ntmps33
  go_wp2_with fail
  refine (open_any v0 _ h).mono ?_; rintro e w1 ⟨rfl, hR, hb1⟩
  clear h
  go_wp2_with fail
  refine (l91Rels_any _ 0 _ hR (by omega)).mono ?_; rintro e w2 ⟨v, vs, n, rfl, hn2, hn5, hvs, hM, ⟨k2, hk2, hR2⟩, hK2⟩
  obtain ⟨M, h1, h3, h4⟩ := hM.sq hvs hn2 hn5
  have hB : Below w.heap.size w w2 := hb1.trans (hK2.below (Nat.le_refl _) hb1.size)
  clear hM hK2 hR hR2 hb1
  go_wp2
  go_ret
  exact ⟨v, M, rfl, h1, h4, hB⟩
end Go.Proofs.Ytfckmgeakdbdfaa
