/- What the law on the form of relations draws. -/
import Derived.Test.YtfckmgeakdbdfaaOk
import Derived.Test.YtfckmgeakdbdfaaB6
set_option linter.unusedSimpArgs false
set_option linter.unusedVariables false
namespace Go.Proofs.Ytfckmgeakdbdfaa
open Go.RowKit

set_option maxHeartbeats 4000000 in
theorem drawRelsOk_any (v0 : Value) (w : World) (h : Given w v0) :
    Calls Try.prog 13 #[v0] w fun e w' => ∃ (v : Value) (M : List (List Int)), e = .returned v ∧ Mat w' v M ∧ Sq M ∧ Below w.heap.size w w' := by
  go_enter Try.func13, Try.ntmps13
  go_wp2_with fail
  refine (open_any v0 _ h).mono ?_; rintro e w1 ⟨rfl, hR, hb1⟩
  have hlt := hR.lt
  clear h
  go_wp2_with fail
  refine (l91Rels_any _ 0 _ hR (by omega)).mono ?_; rintro e w2 ⟨v, vs, n, rfl, hn2, hn5, hvs, hM, ⟨k2, hk2, hR2⟩, hK2⟩
  have hs2 := hK2.size
  obtain ⟨g, cap, rfl, hcp1, hcp2, hgB⟩ := hM.slice (by omega)
  have HV := Lib.hid hvs
  rw [hvs] at hM hcp1 ⊢
  clear hvs
  have hB2 : Below w.heap.size w w2 := hb1.trans (hK2.below (Nat.le_refl _) hb1.size)
  clear hK2 hR hb1
  go_wp2_with fail
  refine (pick_any _ _ _ _ hR2 (by omega) (by omega) (by omega)).mono ?_; rintro e w3 ⟨v3, rfl, u3, l3, hR3, hK3⟩
  have hF := Fr.call (Fr.start w.heap.size w2) hK3
  have hM3 := hM.kp hK3 hlt
  clear hM hR2 hK3
  by_cases h3 : v3 = 0
  · subst h3
    have hcho : ∀ i : Nat, ∃ G C : Nat, i < n → vs[i]? = some (.slice (some ⟨G, 0, none⟩) n C) ∧ n ≤ C ∧ C ≤ 9223372036854775807 ∧ w1.heap.size ≤ G := fun i => by
      by_cases hi : i < n
      · obtain ⟨G, C, h1, h2, h3, h4, h5, _⟩ := hM3.at rfl (i := i) (by rw [HV.out]; exact hi)
        exact ⟨G, C, fun _ => ⟨h1, h3, h4, h5⟩⟩
      · exact ⟨0, 0, fun h => (hi h).elim⟩
    obtain ⟨G, hcho⟩ := Classical.axiomOfChoice hcho
    obtain ⟨C, hcho⟩ := Classical.axiomOfChoice hcho
    have HG := Lib.hid hcho
    have hcC : ∀ i : Nat, i < n → n ≤ C i := fun i hi => (HG.out i hi).2.1
    have hc : ∀ i : Nat, i < n → w3.cell? ⟨g, i, none⟩ = some (.slice (some ⟨G i, 0, none⟩) n (C i)) := fun i hi => by
      obtain ⟨G', C', h1, h2, _⟩ := hM3.at rfl (i := i) (by rw [HV.out]; exact hi)
      rw [h2, ← h1, (HG.out i hi).1]
    have hX : ∀ i j : Nat, ∃ x : Int, i < n → j < n → w3.cell? ⟨G i, j, none⟩ = some (.int .i64 x) ∧ w3.frozen? ⟨G i, j, none⟩ = false := fun i j => by
      by_cases hi : i < n
      · by_cases hj : j < n
        · obtain ⟨G', C', h1, _, _, _, _, h6⟩ := hM3.at rfl (i := i) (by rw [HV.out]; exact hi)
          have e : G' = G i := by rw [(HG.out i hi).1] at h1; injection h1 with h1; injection h1 with h1; injection h1 with h1; injection h1 with h1; exact h1.symm
          obtain ⟨x, h7, _, _, h8⟩ := h6 j hj
          rw [e] at h7 h8
          exact ⟨x, fun _ _ => ⟨h7, h8⟩⟩
        · exact ⟨0, fun _ h => (hj h).elim⟩
      · exact ⟨0, fun h => (hi h).elim⟩
    have hX' : ∀ i : Nat, ∃ x : Nat → Int, ∀ j, i < n → j < n → w3.cell? ⟨G i, j, none⟩ = some (.int .i64 (x j)) ∧ w3.frozen? ⟨G i, j, none⟩ = false := fun i => Classical.axiomOfChoice (hX i)
    obtain ⟨X, hX2⟩ := Classical.axiomOfChoice hX'
    have hx : ∀ i j : Nat, i < n → j < n → w3.cell? ⟨G i, j, none⟩ = some (.int .i64 (X i j)) := fun i j hi hj => (hX2 i j hi hj).1
    have hfz : ∀ i j : Nat, i < n → j < n → w3.frozen? ⟨G i, j, none⟩ = false := fun i j hi hj => (hX2 i j hi hj).2
    have hgr : g ≠ w.heap.size := by omega
    have hGr : Hid (∀ i : Nat, i < n → G i ≠ w.heap.size) := fun i hi => by have := (HG.out i hi).2.2.2; omega
    have hR := hR3.drew
    have hM := hM3.drew
    replace hF := hF.drew
    replace hc : ∀ i : Nat, i < n → w3.drew.cell? ⟨g, i, none⟩ = some (.slice (some ⟨G i, 0, none⟩) n (C i)) := hc
    replace hx : ∀ i j : Nat, i < n → j < n → w3.drew.cell? ⟨G i, j, none⟩ = some (.int .i64 (X i j)) := hx
    replace hfz : ∀ i j : Nat, i < n → j < n → w3.drew.frozen? ⟨G i, j, none⟩ = false := hfz
    clear hcho hX hX' hX2 hR3 hM3
    go_upto_region 4 with (fail)
    go_region_with (go_at_call 39; go_must (refine (pick_any _ _ _ _ hR (by omega) (by omega) (by omega)).mono ?_); rintro e wx ⟨vx, rfl, ux, lx, hRx, hKx⟩; obtain ⟨ix, rfl⟩ := Int.eq_ofNat_of_zero_le ux; replace hfz := fun (i j : Nat) (hi : i < n) (hj : j < n) => (hKx.frozen (World.block_lt_of_cell? _ _ (hx i j hi hj)) (hGr.out i hi)).trans (hfz i j hi hj); replace hc := fun (i : Nat) (hi : i < n) => hKx.cell (hc i hi) hgr; replace hx := fun (i j : Nat) (hi : i < n) (hj : j < n) => hKx.cell (hx i j hi hj) (hGr.out i hi); replace hM := hM.kp hKx hlt; replace hF := hF.call hKx; replace hR := hRx; (try have hix : ix < n := by omega); clear hRx hKx)
    all_goals
      rename_i wy1 i1 uy1 ly1 hi1 wy2 i2 uy2 ly2
      have hM7 := hM.store (by omega) (HG.out i1 hi1).1 (j := i2) (y := (ix : Int)) ux (by omega)
      obtain ⟨M, q1, q3, q4⟩ := hM7.sq HV.out hn2 hn5
      have hB := (hB2.trans (hF.kp.below (B := w.heap.size) (Nat.le_refl _) hB2.size)).setCell (p := ⟨G i1, i2, none⟩) (by have := (HG.out i1 hi1).2.2.2; dsimp only; omega) (.int .i64 (ix : Int))
      clear hM hM7 hF hR hB2 hc hx hfz
      go_wp2
      go_ret
      exact ⟨_, M, rfl, q1, q4, hB⟩
  · have e3 : (v3 == 0) = false := by simp [h3]
    clear h3
    obtain ⟨M, h1, h3, h4⟩ := hM3.sq HV.out hn2 hn5
    have hB := hB2.trans (hF.kp.below (B := w.heap.size) (Nat.le_refl _) hB2.size)
    clear hM3 hF hR3 hB2
    go_wp2
    go_ret
    exact ⟨_, M, rfl, h1, h4, hB⟩
end Go.Proofs.Ytfckmgeakdbdfaa
