/- Laws on fewer houses, and on peers: FnRelsLess, FnRelsPeers. -/
import Derived.Test.YtfckmgeakdbdfaaOi
import Derived.Test.YtfckmgeakdbdfaaOg
set_option linter.unusedSimpArgs false
set_option linter.unusedVariables false
namespace Go.Proofs.Ytfckmgeakdbdfaa
open Go.RowKit

theorem Ints.take {w : World} {a : Option Addr} {m c k : Nat} {L : List Int} (h : Ints w (.slice a m c) L) (hk : k ≤ m) : Ints w (.slice a k c) (L.take k) := by
  obtain ⟨ao, cap, e, h1, h2, h3⟩ := Rows.ex h
  injection e with e1 e2 e3
  subst e1; subst e3
  have hl : (L.take k).length = k := by rw [List.length_take]; omega
  refine ⟨⟨a, c, by rw [hl], by omega, h2, fun j x hj => h3 j x ?_⟩⟩
  rw [List.getElem?_take] at hj
  split at hj
  · exact hj
  · cases hj
theorem Mat.of {w : World} {v : Value} {vs : List Value} {M : List (List Int)} (h : Rows w v 1 encV vs) (hl : vs.length = M.length) (hr : ∀ (i : Nat) (u : Value), vs[i]? = some u → Ints w u (M.getD i [])) : Mat w v M :=
  ⟨vs, h, hl, fun i r hi => by
    have hi' := (List.getElem?_eq_some_iff.1 hi).1
    refine ⟨vs[i]'(by omega), List.getElem?_eq_getElem (by omega), ?_⟩
    have := hr i _ (List.getElem?_eq_getElem (show i < vs.length by omega))
    rwa [show M.getD i [] = r by simp [List.getD, hi]] at this⟩
theorem snoc_at {α : Type} {L : List α} {y u : α} {j : Nat} (h : (L ++ [y])[j]? = some u) : L[j]? = some u ∨ j = L.length ∧ u = y := by
  by_cases hj : j < L.length
  · rw [List.getElem?_append_left hj] at h; exact Or.inl h
  · rw [List.getElem?_append_right (by omega)] at h
    have h0 : j - L.length < 1 := by simpa using (List.getElem?_eq_some_iff.1 h).1
    rw [show j - L.length = 0 by omega] at h
    exact Or.inr ⟨by omega, by simpa using h.symm⟩
set_option maxHeartbeats 2000000 in
theorem FnRelsLess_walk (a0 : Option Addr) (n0 c0 : Nat) (w : World) (h0 : Given w (.slice a0 n0 c0)) :
    Calls Try.prog 9 #[.slice a0 n0 c0] w fun e w' => e = .returned (.bool true) ∧ Below w.heap.size w w' := by
  by_cases hn0 : 1048576 < n0
  · have e0 : decide (1048576 < (n0 : Int)) = true := by simp; omega
    go_enter Try.func9, Try.ntmps9
    go_wp2
    go_ret
    exact ⟨rfl, Below.refl _ _⟩
  have e0 : decide (1048576 < (n0 : Int)) = false := by simp; omega
  have hF := Fb.start w
  go_enter Try.func9, Try.ntmps9
  go_wp2_with fail
  refine (drawRels_any _ _ h0).mono ?_; rintro e w1 ⟨v, M, rfl, hM, hSq, hb1⟩
  replace hF := hF.below hb1
  clear hb1 h0 hSq
  obtain ⟨n, cap, hn, hnc, hcap, hv⟩ := hM.cases
  by_cases hf : FreeP M
  · have d1 : decide (FreeP M) = true := by simp [hf]
    have hp := hf.1
    have hn5 : n ≤ 5 := by have := hp.2.2; have := hn.out; omega
    have hn1 : 1 ≤ n := by have := hp.2.1; have := hn.out; omega
    obtain ⟨b0, off, rfl⟩ : ∃ b off, v = .slice (some ⟨b, off, none⟩) n cap := by
      rcases hv with ⟨g, _⟩ | ⟨_, b, off, e⟩
      · omega
      · exact ⟨b, off, e⟩
    have HF := Lib.hid hf
    clear hf hp hv
    by_cases h2 : n < 2
    · have d2 : decide ((n : Int) < 2) = true := by simp; omega
      have d2' : decide (n < 2) = true := by simp [h2]
      go_wp2_with (first | (go_at_call 30; go_must (refine (iRelsFree_any _ M _ hM).mono ?_); rintro e wx ⟨rfl, hbx⟩; replace hM := hM.below hbx; replace hF := hF.below hbx; clear hbx) | (go_at_call 31; go_must (refine (sRelsFree_any _ M _ hM).mono ?_); rintro e wx ⟨rfl, hbx⟩; replace hM := hM.below hbx; replace hF := hF.below hbx; clear hbx))
      go_ret
      exact ⟨rfl, hF.kp⟩
    · have d2 : decide ((n : Int) < 2) = false := by simp; omega
      have d2' : decide (n < 2) = false := by simp; omega
      go_wp2_with (first | (go_at_call 30; go_must (refine (iRelsFree_any _ M _ hM).mono ?_); rintro e wx ⟨rfl, hbx⟩; replace hM := hM.below hbx; replace hF := hF.below hbx; clear hbx) | (go_at_call 31; go_must (refine (sRelsFree_any _ M _ hM).mono ?_); rintro e wx ⟨rfl, hbx⟩; replace hM := hM.below hbx; replace hF := hF.below hbx; clear hbx))
      obtain ⟨p, hp1, hp2⟩ : ∃ p, p + 1 ≤ n ∧ n ≤ p + 1 := ⟨n - 1, by omega, by omega⟩
      have hsub : (n : Int) - 1 = (p : Int) := by omega
      have HM := Lib.hid hM
      obtain ⟨wa, rfl⟩ : ∃ wa : World, wa = wx := ⟨_, rfl⟩
      have hO0 : Own 26 (wa.alloc (.cells #[] 26)) wa.heap.size (.slice (some ⟨wa.heap.size, 0, none⟩) 0 0) 1 encV [] := Own.made _ _ _ _ _ (Nat.le_refl _)
      have hB0 := (Below.refl wa.heap.size wa).alloc (Nat.le_refl _) (.cells #[] 26)
      clear hM d1 d2 d2'
      go_loopw [5, 6] (fun s5 s6 wr => ∃ (i : Nat) (vs : List Value), i ≤ p ∧ s6 = .int .i64 i ∧ Hid (vs.length = i) ∧ Own 26 wr wa.heap.size s5 1 encV vs ∧ Hid (∀ (j : Nat) (u : Value), vs[j]? = some u → Ints wa u ((M.getD j []).take p)) ∧ Below wa.heap.size wa wr) (fun _ s6 _ => p + 1 - (intOf s6).toNat)
      case atStart => exact ⟨0, [], Nat.zero_le _, rfl, rfl, hO0, fun j u h => (by simp at h), hB0⟩
      case round =>
        clear hO0 hB0
        obtain ⟨i, vs, hi, rfl, hvs, hO, hrows, hB⟩ := hrel
        by_cases hlt : i < p
        · have hMr := HM.out.below hB
          obtain ⟨ai, mi, ci, hci, hmi, hri, hmc, hcc⟩ := hMr.at (k := i) (by rw [hn.out]; omega)
          have hme : mi = n := by rw [← hmi.out, ← hn.out]; exact HF.out.1.row (by rw [hn.out]; omega)
          subst hme
          have dl : decide ((i : Int) + 1 < (mi : Int)) = true := by simp; omega
          have dl' : decide (i + 1 < mi) = true := by simp; omega
          obtain ⟨bi, oi, rfl⟩ := hri.some (by omega)
          have hIa : Hid (Ints wa (.slice (some ⟨bi, oi, none⟩) p ci) ((M.getD i []).take p)) := by
            obtain ⟨ai2, mi2, ci2, hci2, hmi2, hri2, hmc2, hcc2⟩ := HM.out.at (k := i) (by rw [hn.out]; omega)
            have e := (hB.cell (World.block_lt_of_cell? wa _ hci2)).trans hci2
            rw [hci] at e
            injection e with e; injection e with e1 e2 e3
            rw [← e1, ← e2, ← e3] at hri2
            exact Ints.take hri2 (by omega)
          have hl : vs.length ≤ 5 := by have := hvs.out; omega
          have hsa := hB.size
          clear hri hMr
          go_wp2_with ((at_builtin; refine wpList_app rfl _ _ 23 rfl 26 (.slice none 0 0) 1 24 Try.underlying23 infoRow rfl (by decide) (by decide) wa.heap.size encV _ _ rfl (hO.alloc _) (.slice (some ⟨bi, oi, none⟩) p ci) ⟨_, 0, none⟩ 1 rfl rfl (cells_new _ _ _) (by simp [encV, Value.oneCell']) (by omega) (by simp only [World.size_alloc]; omega) ?_; intro v' wx hO1 hg1 hb1 hf1; (replace hB := (hB.alloc (by omega) _).trans hb1; replace hO := hO1; clear hO1 hg1 hb1 hf1)))
          go_roundw
          case rel => exact ⟨i + 1, _, by omega, by go_num, by show _ = _; rw [List.length_append, hvs.out]; rfl, hO, (fun j u h => by
            rcases snoc_at h with h | ⟨rfl, rfl⟩
            · exact hrows.out j u h
            · rw [hvs.out]; exact hIa.out), hB⟩
          case measure => simp [intOf]; omega
        · obtain rfl : i = p := by omega
          have hML : Hid (Mat wr u5 (lessM M)) := Mat.of (hO.rows (fun _ => rfl)) (by rw [lessM_len, hn.out, hvs.out]; omega) (fun j u h => by
            have hj : j < i := by have := (List.getElem?_eq_some_iff.1 h).1; rw [hvs.out] at this; exact this
            rw [lessM_row (by rw [hn.out]; omega), hn.out, show n - 1 = i by omega]
            exact (hrows.out j u h).below hB)
          have dl : decide ((i : Int) + 1 < (n : Int)) = false := by simp; omega
          have dl' : decide (i + 1 < n) = false := by simp; omega
          have d3 : decide (FreeP (lessM M)) = true := decide_eq_true (lessM_free HF.out (by rw [hn.out]; omega))
          go_wp2_with (go_at_call 30; go_must (refine (iRelsFree_any _ (lessM M) _ hML.out).mono ?_); rintro e wx ⟨rfl, hbx⟩; replace hF := (hF.below hB).below hbx; clear hbx)
          go_ret
          exact ⟨rfl, hF.kp⟩
  · have d1 : decide (FreeP M) = false := by simp [hf]
    obtain ⟨ao, m, c, rfl, -, -⟩ := hM.sl
    clear hf hv
    go_wp2_with (first | (go_at_call 30; go_must (refine (iRelsFree_any _ M _ hM).mono ?_); rintro e wx ⟨rfl, hbx⟩; replace hM := hM.below hbx; replace hF := hF.below hbx; clear hbx) | (go_at_call 31; go_must (refine (sRelsFree_any _ M _ hM).mono ?_); rintro e wx ⟨rfl, hbx⟩; replace hM := hM.below hbx; replace hF := hF.below hbx; clear hbx))
    go_ret
    exact ⟨rfl, hF.kp⟩
end Go.Proofs.Ytfckmgeakdbdfaa
