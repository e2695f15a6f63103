/- FnPathAdd: the walk. -/
import Derived.Test.YtcdmkmkjppbkgaaDoorEl
set_option linter.unusedSimpArgs false
set_option linter.unusedVariables false
namespace Go.Proofs.YtcdmkmkjppbkgaaDoor
open Go.RowKit

theorem lyInts_same (v1 v2 : Value) (L : List Int) (w : World) (h1 : Ints w v1 L) (h2 : Ints w v2 L) :
    Calls Tryd.prog 23 #[v1, v2] w fun e w' => e = .returned (.bool true) ∧ Below w.heap.size w w' := by
  have := lyInts_any v1 v2 L L w h1 h2
  rwa [decide_eq_true rfl] at this
theorem ints_drop {w : World} {b off n c : Nat} {L : List Int} (h : Ints w (.slice (some ⟨b, off, none⟩) n c) L) {k : Nat} (hk : k ≤ n) (hc : n ≤ c) (hcc : c ≤ 9223372036854775807) : Ints w (.slice (some ⟨b, off + k, none⟩) (n - k) (c - k)) (L.drop k) := by
  have hl : L.length = n := by obtain ⟨ao, cap, e, _⟩ := h.ex; injection e with _ e; exact e.symm
  have := Rows.sub h (i := k) (j := n) (c' := c - k) (by omega) (by omega) (by omega) (by omega)
  rw [List.take_of_length_le (by omega)] at this
  simpa using this
theorem ints_cap {w : World} {ao : Option Addr} {n c : Nat} {L : List Int} (h : Ints w (.slice ao n c) L) : n ≤ c ∧ c ≤ 9223372036854775807 ∧ L.length = n := by
  obtain ⟨ao, cap, e, h1, h2, _⟩ := h.ex
  injection e with e1 e2 e3
  subst e2; subst e3
  exact ⟨h1, h2, rfl⟩
theorem ints_head {w : World} {g n c : Nat} {z : Int} {K L : List Int} (h : Ints w (.slice (some ⟨g, 0, none⟩) n c) K) (hK : K = z :: L) : w.cell? ⟨g, 0, none⟩ = some (.int .i64 z) := by
  subst hK; have := Ints.get h (k := 0) (x := z) rfl; simpa using this
theorem ints_tail {w : World} {g n c : Nat} {z : Int} {K L : List Int} (h : Ints w (.slice (some ⟨g, 0, none⟩) n c) K) (hK : K = z :: L) (hc : c ≠ 1) : Ints w (.slice (some ⟨g, 1, none⟩) (n - 1) (c - 1)) L := by
  obtain ⟨h1, h2, h3⟩ := ints_cap h
  have hn : 1 ≤ n := by rw [← h3, hK]; simp
  have := ints_drop h (k := 1) hn h1 h2
  rw [hK] at this; simpa using this
set_option maxHeartbeats 4000000 in
theorem FnPathAdd_walk (a0 : Option Addr) (n0 c0 : Nat) (a : Addr) (w : World) (h0 : Given w (.slice a0 n0 c0)) (hE : EPath w a) :
    Calls Tryd.prog 5 #[.slice a0 n0 c0] w fun e w' => e = .returned (.bool true) ∧ Below w.heap.size w w' := by
  by_cases hn0 : 1048576 < n0
  · have e0 : decide (1048576 < (n0 : Int)) = true := by simp; omega
    go_enter Tryd.func5, Tryd.ntmps5
    go_wp2
    go_ret
    exact ⟨rfl, Below.refl _ _⟩
  have e0 : decide (1048576 < (n0 : Int)) = false := by simp; omega
  have hF := Fb.start w
  go_enter Tryd.func5, Tryd.ntmps5
  go_wp2_with fail
  refine (drawPathAdd_any _ _ h0).mono ?_; rintro e w1 ⟨v, L, z, rfl, hV, hL4, -, hz0, hz6, hb1⟩
  replace hF := hF.below hb1
  replace hE := hE.below hb1
  clear hb1 h0
  obtain ⟨K, hK⟩ : ∃ K, Hid (padd L z = K) := ⟨_, rfl⟩
  obtain ⟨q, hq⟩ : ∃ q, Hid (decide (PAdd L z) = q) := ⟨_, rfl⟩
  go_wp2_with fail
  have c1 := sPathAdd_any v L z _ hV
  rw [hK.out, hq.out] at c1
  refine c1.mono ?_; rintro e w2 ⟨vx1, rfl, hO1, hb2⟩
  clear c1
  replace hF := hF.below hb2
  replace hE := hE.below hb2
  replace hV := hV.below hb2
  have h2 := hO1.ints
  clear hb2 hO1
  go_wp2_with fail
  have c1 := iPathAdd_any v L z a _ hV hE
  rw [hK.out, hq.out] at c1
  refine c1.mono ?_; rintro e w3 ⟨vx2, rfl, hO2, hb3⟩
  clear c1
  replace hF := hF.below hb3
  replace hE := hE.below hb3
  have h1 := Rows.below hV.1 hb3
  replace h2 := Rows.below h2 hb3
  clear hb3 hV
  have hqq : (q != q) = false := by simp
  have hqe : (q == q) = true := by simp
  cases q
  · have h3 := hO2.ints
    clear hO2
    by_cases hp : POk L
    · have d1 : decide (POk L) = true := by simp [hp]
      have hz : Hid ((decide (z ∈ L) || decide (z < 1) || decide (5 < z)) = true) := by
        have := of_decide_eq_false hq.out
        unfold PAdd Bts at this
        simp only [hp, true_and] at this
        show _ = true
        by_cases g : z ∈ L
        · simp [g]
        · simp [g] at this ⊢; omega
      clear hp
      obtain ⟨b1, hb1⟩ : ∃ b, decide (z ∈ L) = b := ⟨_, rfl⟩
      have hz' := hz.out
      rw [hb1] at hz'
      cases b1
      · by_cases hlo : z < 1
        · go_wp2_with (first | (go_at_call 23; go_must (refine (lyInts_same _ _ K _ h3 h2).mono ?_); rintro e wx ⟨rfl, hbx⟩; replace hF := hF.below hbx; (try replace h1 := Rows.below h1 hbx); (try replace h2 := Rows.below h2 hbx); (try replace h3 := Rows.below h3 hbx); (try replace hG := hG.below hbx); (try replace hE := hE.below hbx); clear hbx) | (go_at_call 15; go_must (refine (sPathOk_any _ L _ h1).mono ?_); rintro e wx ⟨rfl, hbx⟩; replace hF := hF.below hbx; (try replace h1 := Rows.below h1 hbx); (try replace h2 := Rows.below h2 hbx); (try replace h3 := Rows.below h3 hbx); (try replace hG := hG.below hbx); (try replace hE := hE.below hbx); clear hbx) | (go_at_call 19; go_must (refine (lyIn_any _ L _ _ h1).mono ?_); rintro e wx ⟨rfl, hbx⟩; replace hF := hF.below hbx; (try replace h1 := Rows.below h1 hbx); (try replace h2 := Rows.below h2 hbx); (try replace h3 := Rows.below h3 hbx); (try replace hG := hG.below hbx); (try replace hE := hE.below hbx); clear hbx))
          go_ret
          exact ⟨by simp, hF.kp⟩
        · have hhi : 5 < z := by simp at hz'; omega
          go_wp2_with (first | (go_at_call 23; go_must (refine (lyInts_same _ _ K _ h3 h2).mono ?_); rintro e wx ⟨rfl, hbx⟩; replace hF := hF.below hbx; (try replace h1 := Rows.below h1 hbx); (try replace h2 := Rows.below h2 hbx); (try replace h3 := Rows.below h3 hbx); (try replace hG := hG.below hbx); (try replace hE := hE.below hbx); clear hbx) | (go_at_call 15; go_must (refine (sPathOk_any _ L _ h1).mono ?_); rintro e wx ⟨rfl, hbx⟩; replace hF := hF.below hbx; (try replace h1 := Rows.below h1 hbx); (try replace h2 := Rows.below h2 hbx); (try replace h3 := Rows.below h3 hbx); (try replace hG := hG.below hbx); (try replace hE := hE.below hbx); clear hbx) | (go_at_call 19; go_must (refine (lyIn_any _ L _ _ h1).mono ?_); rintro e wx ⟨rfl, hbx⟩; replace hF := hF.below hbx; (try replace h1 := Rows.below h1 hbx); (try replace h2 := Rows.below h2 hbx); (try replace h3 := Rows.below h3 hbx); (try replace hG := hG.below hbx); (try replace hE := hE.below hbx); clear hbx))
          go_ret
          exact ⟨by simp, hF.kp⟩
      · clear hz'
        go_wp2_with (first | (go_at_call 23; go_must (refine (lyInts_same _ _ K _ h3 h2).mono ?_); rintro e wx ⟨rfl, hbx⟩; replace hF := hF.below hbx; (try replace h1 := Rows.below h1 hbx); (try replace h2 := Rows.below h2 hbx); (try replace h3 := Rows.below h3 hbx); (try replace hG := hG.below hbx); (try replace hE := hE.below hbx); clear hbx) | (go_at_call 15; go_must (refine (sPathOk_any _ L _ h1).mono ?_); rintro e wx ⟨rfl, hbx⟩; replace hF := hF.below hbx; (try replace h1 := Rows.below h1 hbx); (try replace h2 := Rows.below h2 hbx); (try replace h3 := Rows.below h3 hbx); (try replace hG := hG.below hbx); (try replace hE := hE.below hbx); clear hbx) | (go_at_call 19; go_must (refine (lyIn_any _ L _ _ h1).mono ?_); rintro e wx ⟨rfl, hbx⟩; replace hF := hF.below hbx; (try replace h1 := Rows.below h1 hbx); (try replace h2 := Rows.below h2 hbx); (try replace h3 := Rows.below h3 hbx); (try replace hG := hG.below hbx); (try replace hE := hE.below hbx); clear hbx))
        go_ret
        exact ⟨by simp, hF.kp⟩
    · have d1 : decide (POk L) = false := by simp [hp]
      clear hp
      go_wp2_with (first | (go_at_call 23; go_must (refine (lyInts_same _ _ K _ h3 h2).mono ?_); rintro e wx ⟨rfl, hbx⟩; replace hF := hF.below hbx; (try replace h1 := Rows.below h1 hbx); (try replace h2 := Rows.below h2 hbx); (try replace h3 := Rows.below h3 hbx); (try replace hG := hG.below hbx); (try replace hE := hE.below hbx); clear hbx) | (go_at_call 15; go_must (refine (sPathOk_any _ L _ h1).mono ?_); rintro e wx ⟨rfl, hbx⟩; replace hF := hF.below hbx; (try replace h1 := Rows.below h1 hbx); (try replace h2 := Rows.below h2 hbx); (try replace h3 := Rows.below h3 hbx); (try replace hG := hG.below hbx); (try replace hE := hE.below hbx); clear hbx))
      go_ret
      exact ⟨by simp, hF.kp⟩
  · have hadd : Hid (PAdd L z) := (show PAdd L z from of_decide_eq_true hq.out)
    have d1 : decide (POk L) = true := by simp [hadd.out.1]
    have hKe : Hid (K = z :: L) := by show K = _; rw [← hK.out]; exact if_pos hadd.out
    have hKp : Hid (POk K) := by
      show POk K
      rw [hKe.out]
      exact ⟨fun x hx => by rcases List.mem_cons.1 hx with rfl | hx; exact hadd.out.2.1; exact hadd.out.1.1 x hx, List.nodup_cons.2 ⟨hadd.out.2.2, hadd.out.1.2⟩⟩
    have d2 : decide (POk K) = true := decide_eq_true hKp.out
    have d3 : decide (Has K z) = true := decide_eq_true ⟨hKp.out, by rw [hKe.out]; exact List.mem_cons_self ..⟩
    have d4 : decide (Has L z) = false := decide_eq_false fun g => hadd.out.2.2 g.2
    rcases hO2.two with ⟨_, hnil⟩ | ⟨g, c, n, rfl, hnc, hn⟩
    · exact absurd hnil (by rw [hKe.out]; simp)
    have hnL : Hid (n = L.length + 1) := by show n = _; rw [← hn.out, hKe.out]; rfl
    have hn1 : 1 ≤ n := by have := hnL.out; omega
    have h3 := hO2.ints
    have hcc := (ints_cap h3).2.1
    have tok1 : True := trivial
    by_cases hc1 : c = 1
    · obtain rfl : n = 1 := by omega
      have hL0 : Hid (L = []) := by have := hnL.out; exact List.length_eq_zero_iff.1 (by omega)
      subst hc1
      clear hnc hcc hn1
      go_wp2_with (first | (go_at_call 23; clear tok1; go_must (refine (lyInts_same _ _ K _ h3 h2).mono ?_); rintro e wx ⟨rfl, hbx⟩; replace hF := hF.below hbx; (try replace h1 := Rows.below h1 hbx); (try replace h2 := Rows.below h2 hbx); (try replace h3 := Rows.below h3 hbx); (try replace hG := hG.below hbx); (try replace hE := hE.below hbx); clear hbx) | (go_at_call 15; go_must (refine (sPathOk_any _ L _ h1).mono ?_); rintro e wx ⟨rfl, hbx⟩; replace hF := hF.below hbx; replace h1 := Rows.below h1 hbx; replace h3 := Rows.below h3 hbx; replace hE := hE.below hbx; clear hbx; have k0 := ints_head h3 hKe.out; have h4 : Ints wx (.slice (some ⟨g, 0, none⟩) 0 0) L := (by rw [hL0.out]; exact Rows.nil wx _ _ (by omega) _ _)) | (go_at_call 23; go_must (refine (lyInts_same _ _ L _ h4 h1).mono ?_); rintro e wx ⟨rfl, hbx⟩; replace hF := hF.below hbx; replace h1 := Rows.below h1 hbx; replace h3 := Rows.below h3 hbx; replace hE := hE.below hbx; clear hbx h4 k0; have tok2 : True := trivial) | (go_at_call 17; clear tok2; go_must (refine (iPathHas_any _ K z a _ h3 hE).mono ?_); rintro e wx ⟨rfl, hbx⟩; replace hF := hF.below hbx; (try replace h1 := Rows.below h1 hbx); (try replace h2 := Rows.below h2 hbx); (try replace h3 := Rows.below h3 hbx); (try replace hG := hG.below hbx); (try replace hE := hE.below hbx); clear hbx) | (go_at_call 14; go_must (refine (iPathOk_any _ K a _ h3 hE).mono ?_); rintro e wx ⟨rfl, hbx⟩; replace hF := hF.below hbx; (try replace h1 := Rows.below h1 hbx); (try replace h2 := Rows.below h2 hbx); (try replace h3 := Rows.below h3 hbx); (try replace hG := hG.below hbx); (try replace hE := hE.below hbx); clear hbx) | (go_at_call 17; go_must (refine (iPathHas_any _ L z a _ h1 hE).mono ?_); rintro e wx ⟨rfl, hbx⟩; replace hF := hF.below hbx; (try replace h1 := Rows.below h1 hbx); (try replace h2 := Rows.below h2 hbx); (try replace h3 := Rows.below h3 hbx); (try replace hG := hG.below hbx); (try replace hE := hE.below hbx); clear hbx))
      go_ret
      exact ⟨by simp, hF.kp⟩
    · go_wp2_with (first | (go_at_call 23; clear tok1; go_must (refine (lyInts_same _ _ K _ h3 h2).mono ?_); rintro e wx ⟨rfl, hbx⟩; replace hF := hF.below hbx; (try replace h1 := Rows.below h1 hbx); (try replace h2 := Rows.below h2 hbx); (try replace h3 := Rows.below h3 hbx); (try replace hG := hG.below hbx); (try replace hE := hE.below hbx); clear hbx) | (go_at_call 15; go_must (refine (sPathOk_any _ L _ h1).mono ?_); rintro e wx ⟨rfl, hbx⟩; replace hF := hF.below hbx; replace h1 := Rows.below h1 hbx; replace h3 := Rows.below h3 hbx; replace hE := hE.below hbx; clear hbx; have k0 := ints_head h3 hKe.out; have h4 := ints_tail h3 hKe.out hc1) | (go_at_call 23; go_must (refine (lyInts_same _ _ L _ h4 h1).mono ?_); rintro e wx ⟨rfl, hbx⟩; replace hF := hF.below hbx; replace h1 := Rows.below h1 hbx; replace h3 := Rows.below h3 hbx; replace hE := hE.below hbx; clear hbx h4 k0; have tok2 : True := trivial) | (go_at_call 17; clear tok2; go_must (refine (iPathHas_any _ K z a _ h3 hE).mono ?_); rintro e wx ⟨rfl, hbx⟩; replace hF := hF.below hbx; (try replace h1 := Rows.below h1 hbx); (try replace h2 := Rows.below h2 hbx); (try replace h3 := Rows.below h3 hbx); (try replace hG := hG.below hbx); (try replace hE := hE.below hbx); clear hbx) | (go_at_call 14; go_must (refine (iPathOk_any _ K a _ h3 hE).mono ?_); rintro e wx ⟨rfl, hbx⟩; replace hF := hF.below hbx; (try replace h1 := Rows.below h1 hbx); (try replace h2 := Rows.below h2 hbx); (try replace h3 := Rows.below h3 hbx); (try replace hG := hG.below hbx); (try replace hE := hE.below hbx); clear hbx) | (go_at_call 17; go_must (refine (iPathHas_any _ L z a _ h1 hE).mono ?_); rintro e wx ⟨rfl, hbx⟩; replace hF := hF.below hbx; (try replace h1 := Rows.below h1 hbx); (try replace h2 := Rows.below h2 hbx); (try replace h3 := Rows.below h3 hbx); (try replace hG := hG.below hbx); (try replace hE := hE.below hbx); clear hbx))
      go_ret
      exact ⟨by simp, hF.kp⟩
end Go.Proofs.YtcdmkmkjppbkgaaDoor
