/- Paths compared. -/
import Derived.Test.YtgegmampnpgcaaaDoorEe
import Derived.Test.YtgegmampnpgcaaaDoorRc
set_option linter.unusedSimpArgs false
set_option linter.unusedVariables false
namespace Go.Proofs.YtgegmampnpgcaaaDoor
open Go.RowKit

/-- Number by number. -/
def lex : List Int → List Int → Int
  | [], [] => 0
  | [], _ :: _ => -1
  | _ :: _, [] => 1
  | x :: L, y :: K => if icmp x y = 0 then lex L K else icmp x y
def orz (x y : Int) : Int := if x = 0 then y else x
def pcmp (L K : List Int) : Int := orz (icmp (L.length : Int) (K.length : Int)) (lex L K)
def PC (L K : List Int) : Int := if POk L ∧ POk K then pcmp L K else 0
theorem drop_at {α : Type} {L : List α} {k : Nat} {x : α} (h : L[k]? = some x) : L.drop k = x :: L.drop (k + 1) := by
  obtain ⟨hk, rfl⟩ := List.getElem?_eq_some_iff.1 h
  exact List.drop_eq_getElem_cons hk
theorem lex_step {L K : List Int} {k : Nat} {x y : Int} (hx : L[k]? = some x) (hy : K[k]? = some y) : lex (L.drop k) (K.drop k) = if icmp x y = 0 then lex (L.drop (k + 1)) (K.drop (k + 1)) else icmp x y := by
  rw [drop_at hx, drop_at hy]; rfl
theorem lex_long {L K : List Int} {k : Nat} {x : Int} (hx : L[k]? = some x) (hk : K.length ≤ k) : lex (L.drop k) (K.drop k) = 1 := by
  rw [drop_at hx, List.drop_eq_nil_of_le hk]; rfl
theorem lex_end {L K : List Int} {k : Nat} (hl : L.length ≤ k) : lex (L.drop k) (K.drop k) = if k < K.length then -1 else 0 := by
  rw [List.drop_eq_nil_of_le hl]
  by_cases h : k < K.length
  · rw [if_pos h, List.drop_eq_getElem_cons h]; rfl
  · rw [if_neg h, List.drop_eq_nil_of_le (by omega)]; rfl
theorem lex_bd : ∀ (L K : List Int), -1 ≤ lex L K ∧ lex L K ≤ 1
  | [], [] => by simp [lex]
  | [], _ :: _ => by simp [lex]
  | _ :: _, [] => by simp [lex]
  | x :: L, y :: K => by
    simp only [lex]; split
    · exact lex_bd L K
    · exact icmp_bd x y
set_option maxHeartbeats 1000000 in
theorem Compare_any (v1 v2 : Value) (L K : List Int) (w : World) (h1 : Ints w v1 L) (h2 : Ints w v2 K) :
    Calls Tryd.prog 61 #[v1, v2] w fun e w' => e = .returned (.int .i64 (lex L K)) ∧ Below w.heap.size w w' := by
  have hF := Fb.start w
  obtain ⟨n, c1, hn, hnc, hcap, hv1⟩ := h1.cases
  obtain ⟨m, c2, hm, hmc, hcap2, hv2⟩ := h2.cases
  clear h1 h2
  rcases hv1 with ⟨hn0, ao, rfl⟩ | ⟨hn0, b0, off, rfl, hc⟩
  all_goals rcases hv2 with ⟨hm0, ao2, rfl⟩ | ⟨hm0, b2, off2, rfl, hc2⟩
  all_goals
    go_enter Tryd.func61, Tryd.ntmps61
    go_wp2
    go_loopw [5, 6, 7, 8, 11] (fun s5 s6 s7 s8 s11 wr => ∃ k : Nat, k ≤ n ∧ s11 = .int .i64 k ∧ Hid (lex (L.drop k) (K.drop k) = lex L K) ∧ Fb w wr []) (fun _ _ _ _ s11 _ => n - (intOf s11).toNat)
    case atStart => exact ⟨0, Nat.zero_le _, rfl, rfl, hF⟩
    case round =>
      clear hF
      obtain ⟨k, hk, rfl, hlx, hF⟩ := hrel
      by_cases hlt : k < n
      · try (exfalso; omega)
        all_goals
          obtain ⟨x, hx⟩ := get_of hn.out hlt
          have HX := Lib.hid hx
          have g1 := hF.old (hc.out k x hx)
          clear hx
          by_cases hkm : k < m
          · try (exfalso; omega)
            all_goals
              have hge : ¬ (m : Int) ≤ (k : Int) := by omega
              obtain ⟨y, hy⟩ := get_of hm.out hkm
              have g2 := hF.old (hc2.out k y hy)
              have hst := Lib.hid (lex_step HX.out hy)
              clear hy
              obtain ⟨z, hz⟩ : ∃ z, icmp x y = z := ⟨_, rfl⟩
              by_cases h0 : z = 0
              · have hl2 : Hid (lex (L.drop (k + 1)) (K.drop (k + 1)) = lex L K) := by
                  have e := hst.out
                  rw [if_pos (hz.trans h0)] at e
                  exact e.symm.trans hlx.out
                subst h0
                go_wp2_with (go_at_call 60; refine (compare_any _ _ _).mono ?_; rintro e w' ⟨rfl, rfl⟩)
                go_roundw
                case rel => exact ⟨k + 1, by omega, by go_num, hl2, hF⟩
                case measure => simp [intOf]; omega
              · have hl2 : Hid (lex L K = z) := by
                  have e := hst.out
                  rw [if_neg (fun g => h0 (hz.symm.trans g)), hz] at e
                  exact hlx.out.symm.trans e
                have dz : (z != 0) = true := by simp [h0]
                clear h0
                go_wp2_with (go_at_call 60; refine (compare_any _ _ _).mono ?_; rintro e w' ⟨rfl, rfl⟩)
                go_ret
                exact ⟨by rw [hl2.out]; rfl, hF.kp⟩
          · have hge : (m : Int) ≤ (k : Int) := by omega
            have hl2 : Hid (lex L K = 1) := hlx.out.symm.trans (lex_long HX.out (by rw [hm.out]; omega))
            clear hkm
            go_wp2
            go_ret
            exact ⟨by rw [hl2.out]; rfl, hF.kp⟩
      · have hle := Lib.hid (lex_end (L := L) (K := K) (k := k) (by rw [hn.out]; omega))
        by_cases hkm : n < m
        · have hl2 : Hid (lex L K = -1) := hlx.out.symm.trans (hle.out.trans (if_pos (by rw [hm.out]; omega)))
          go_wp2
          go_ret
          exact ⟨by rw [hl2.out]; rfl, hF.kp⟩
        · have hl2 : Hid (lex L K = 0) := hlx.out.symm.trans (hle.out.trans (if_neg (by rw [hm.out]; omega)))
          go_wp2
          go_ret
          exact ⟨by rw [hl2.out]; rfl, hF.kp⟩
theorem or_two (x y : Int) (w : World) :
    Calls Tryd.prog 59 #[.slice (some ⟨w.heap.size, 0, none⟩) 2 2] (w.alloc (.cells #[.int .i64 x, .int .i64 y] 3)) fun e w' => e = .returned (.int .i64 (orz x y)) ∧ w' = w.alloc (.cells #[.int .i64 x, .int .i64 y] 3) := by
  refine (or_any w.heap.size 0 2 [x, y] _ ?_ (by simp)).mono ?_
  · intro i hi
    match i, hi with
    | 0, _ => simp
    | 1, _ => simp
  · rintro e w' ⟨rfl, rfl⟩
    refine ⟨?_, rfl⟩
    unfold orz
    simp only [orI_cons, orI_nil]
    by_cases hx : x = 0
    · by_cases hy : y = 0 <;> simp [hx, hy]
    · simp [hx]
set_option maxHeartbeats 1000000 in
theorem iPathCmp_any (v1 v2 : Value) (L K : List Int) (a : Addr) (w : World) (h1 : Ints w v1 L) (h2 : Ints w v2 K) (hE : EPath w a) :
    Calls Tryd.prog 27 #[v1, v2] w fun e w' => e = .returned (.int .i64 (PC L K)) ∧ Below w.heap.size w w' := by
  have hF := Fb.start w
  obtain ⟨ao, c1, rfl, -⟩ := h1.ex
  obtain ⟨ao2, c2, rfl, -⟩ := h2.ex
  go_enter Tryd.func27, Tryd.ntmps27
  go_wp2_with fail
  refine (iPathOk_any _ L a _ h1 hE).mono ?_; rintro e w1 ⟨rfl, hb1⟩
  replace hF := hF.below hb1
  replace h1 := Rows.below h1 hb1
  replace h2 := Rows.below h2 hb1
  replace hE := hE.below hb1
  clear hb1
  by_cases p1 : POk L
  · have d1 : decide (POk L) = true := by simp [p1]
    by_cases p2 : POk K
    · have d2 : decide (POk K) = true := by simp [p2]
      have hr : Hid (PC L K = pcmp L K) := by show PC L K = _; unfold PC; rw [if_pos ⟨p1, p2⟩]
      clear p1 p2
      go_wp2_with (first | (go_at_call 19; refine (iPathOk_any _ K a _ h2 hE).mono ?_; rintro e wx ⟨rfl, hbx⟩; replace hF := hF.below hbx; replace h1 := Rows.below h1 hbx; replace h2 := Rows.below h2 hbx; clear hbx) | (go_at_call 60; refine (compare_any _ _ _).mono ?_; rintro e w' ⟨rfl, rfl⟩) | (go_at_call 61; refine (Compare_any _ _ L K _ h1 h2).mono ?_; rintro e wx ⟨rfl, hbx⟩; replace hF := hF.below hbx; clear hbx) | (go_at_call 59; refine (or_two _ _ _).mono ?_; rintro e w' ⟨rfl, rfl⟩))
      go_ret
      exact ⟨by rw [hr.out]; rfl, (hF.other _).kp⟩
    · have d2 : decide (POk K) = false := by simp [p2]
      have hr : Hid (PC L K = 0) := by show PC L K = _; unfold PC; rw [if_neg (fun g => p2 g.2)]
      clear p1 p2
      go_wp2_with (go_at_call 19; refine (iPathOk_any _ K a _ h2 hE).mono ?_; rintro e wx ⟨rfl, hbx⟩; replace hF := hF.below hbx; clear hbx)
      go_ret
      exact ⟨by rw [hr.out]; rfl, hF.kp⟩
  · have d1 : decide (POk L) = false := by simp [p1]
    have hr : Hid (PC L K = 0) := by show PC L K = _; unfold PC; rw [if_neg (fun g => p1 g.1)]
    clear p1
    go_wp2_with fail
    go_ret
    exact ⟨by rw [hr.out]; rfl, hF.kp⟩
set_option maxHeartbeats 1000000 in
theorem l3Cmp_any (v1 v2 : Value) (L K : List Int) (w : World) (h1 : Ints w v1 L) (h2 : Ints w v2 K) :
    Calls Tryd.prog 62 #[v1, v2] w fun e w' => e = .returned (.int .i64 (pcmp L K)) ∧ Below w.heap.size w w' := by
  have hF := Fb.start w
  obtain ⟨n, c1, hn, hnc, hcap, hv1⟩ := h1.cases
  obtain ⟨m, c2, hm, hmc, hcap2, hv2⟩ := h2.cases
  clear h1 h2
  by_cases hnm : n = m
  · subst hnm
    have hr : Hid (pcmp L K = lex L K) := by show pcmp L K = _; unfold pcmp orz; rw [hn.out, hm.out, if_pos (by simp [icmp])]
    rcases hv1 with ⟨hn0, ao, rfl⟩ | ⟨hn0, b0, off, rfl, hc⟩
    all_goals rcases hv2 with ⟨hm0, ao2, rfl⟩ | ⟨hm0, b2, off2, rfl, hc2⟩
    all_goals try (exfalso; omega)
    all_goals
      go_enter Tryd.func62, Tryd.ntmps62
      go_wp2
      go_loopw [5] (fun s5 wr => ∃ k : Nat, k ≤ n ∧ s5 = .int .i64 k ∧ Hid (lex (L.drop k) (K.drop k) = lex L K) ∧ Fb w wr []) (fun s5 _ => n - (intOf s5).toNat)
      case atStart => exact ⟨0, Nat.zero_le _, rfl, rfl, hF⟩
      case round =>
        clear hF
        obtain ⟨k, hk, rfl, hlx, hF⟩ := hrel
        by_cases hlt : k < n
        · try (exfalso; omega)
          all_goals
            obtain ⟨p, hx⟩ := get_of hn.out hlt
            obtain ⟨q, hy⟩ := get_of hm.out hlt
            have G1 := Lib.hid (hc.out k p hx)
            have G2 := Lib.hid (hc2.out k q hy)
            have g1 := fun z : Cl wr.heap.size wr => Cl.old hF z (hc.out k p hx)
            have g2 := fun z : Cl wr.heap.size wr => Cl.old hF z (hc2.out k q hy)
            have hst := Lib.hid (lex_step hx hy)
            clear hx hy
            by_cases d1 : p < q
            · have hl2 : Hid (lex L K = -1) := by
                have e := hst.out
                have ei : icmp p q = -1 := by unfold icmp; rw [if_pos d1]
                rw [ei, if_neg (by omega)] at e
                exact hlx.out.symm.trans e
              go_wp2
              first | refine wp_region_new (by kernel_rfl) (by kernel_rfl) ?_ | refine wp_region_lex ?_
              repeat (any_goals (first | go_big_quiet_step ((fail)) | (refine wpQuiet_step (fun K hK => ?_); go_simp; split <;> (rename_i hg; refine hK _ ?_; clear hK K; simp only [hg, decide_true, decide_false]))))
              all_goals (refine wpQuiet_nil ?_; intro x)
              go_wp2
              go_ret
              exact ⟨by rw [hr.out, hl2.out]; rfl, (hF.cl x).kp⟩
            · by_cases d2 : q < p
              · have hl2 : Hid (lex L K = 1) := by
                  have e := hst.out
                  have ei : icmp p q = 1 := by unfold icmp; rw [if_neg d1, if_pos d2]
                  rw [ei, if_neg (by omega)] at e
                  exact hlx.out.symm.trans e
                go_wp2
                first | refine wp_region_new (by kernel_rfl) (by kernel_rfl) ?_ | refine wp_region_lex ?_
                repeat (any_goals (first | go_big_quiet_step ((fail)) | (refine wpQuiet_step (fun K hK => ?_); go_simp; split <;> (rename_i hg; refine hK _ ?_; clear hK K; simp only [hg, decide_true, decide_false]))))
                all_goals (refine wpQuiet_nil ?_; intro x)
                have hF := hF.cl x
                have g1 := fun z : Cl x.W.heap.size x.W => Cl.old hF z G1.out
                have g2 := fun z : Cl x.W.heap.size x.W => Cl.old hF z G2.out
                go_wp2
                first | refine wp_region_new (by kernel_rfl) (by kernel_rfl) ?_ | refine wp_region_lex ?_
                repeat (any_goals (first | go_big_quiet_step ((fail)) | (refine wpQuiet_step (fun K hK => ?_); go_simp; split <;> (rename_i hg; refine hK _ ?_; clear hK K; simp only [hg, decide_true, decide_false]))))
                all_goals (refine wpQuiet_nil ?_; intro x)
                go_wp2
                go_ret
                exact ⟨by rw [hr.out, hl2.out]; rfl, (hF.cl x).kp⟩
              · have hl2 : Hid (lex (L.drop (k + 1)) (K.drop (k + 1)) = lex L K) := by
                  have e := hst.out
                  have ei : icmp p q = 0 := by unfold icmp; rw [if_neg d1, if_neg d2]
                  rw [ei, if_pos rfl] at e
                  exact e.symm.trans hlx.out
                go_wp2
                first | refine wp_region_new (by kernel_rfl) (by kernel_rfl) ?_ | refine wp_region_lex ?_
                repeat (any_goals (first | go_big_quiet_step ((fail)) | (refine wpQuiet_step (fun K hK => ?_); go_simp; split <;> (rename_i hg; refine hK _ ?_; clear hK K; simp only [hg, decide_true, decide_false]))))
                all_goals (refine wpQuiet_nil ?_; intro x)
                have hF := hF.cl x
                have g1 := fun z : Cl x.W.heap.size x.W => Cl.old hF z G1.out
                have g2 := fun z : Cl x.W.heap.size x.W => Cl.old hF z G2.out
                go_wp2
                first | refine wp_region_new (by kernel_rfl) (by kernel_rfl) ?_ | refine wp_region_lex ?_
                repeat (any_goals (first | go_big_quiet_step ((fail)) | (refine wpQuiet_step (fun K hK => ?_); go_simp; split <;> (rename_i hg; refine hK _ ?_; clear hK K; simp only [hg, decide_true, decide_false]))))
                all_goals (refine wpQuiet_nil ?_; intro x)
                go_wp2
                go_roundw
                case rel => exact ⟨k + 1, by omega, by go_num, hl2, hF.cl x⟩
                case measure => simp [intOf]; omega
        · have hl2 : Hid (lex L K = 0) := hlx.out.symm.trans ((lex_end (by rw [hn.out]; omega)).trans (if_neg (by rw [hm.out]; omega)))
          go_wp2
          go_ret
          exact ⟨by rw [hr.out, hl2.out]; rfl, hF.kp⟩
  · have dnm : ((n : Int) != (m : Int)) = true := by simp; omega
    by_cases hlt : n < m
    · have hr : Hid (pcmp L K = -1) := by
        have ei : icmp (n : Int) (m : Int) = -1 := by unfold icmp; rw [if_pos (by omega)]
        show pcmp L K = _; unfold pcmp orz; rw [hn.out, hm.out, ei, if_neg (by omega)]
      have hl : (n : Int) < (m : Int) := by omega
      rcases hv1 with ⟨hn0, ao, rfl⟩ | ⟨hn0, b0, off, rfl, hc⟩
      all_goals rcases hv2 with ⟨hm0, ao2, rfl⟩ | ⟨hm0, b2, off2, rfl, hc2⟩
      all_goals
        go_enter Tryd.func62, Tryd.ntmps62
        go_wp2
        go_ret
        exact ⟨by rw [hr.out]; rfl, hF.kp⟩
    · have hr : Hid (pcmp L K = 1) := by
        have ei : icmp (n : Int) (m : Int) = 1 := by unfold icmp; rw [if_neg (by omega), if_pos (by omega)]
        show pcmp L K = _; unfold pcmp orz; rw [hn.out, hm.out, ei, if_neg (by omega)]
      have hl : ¬ (n : Int) < (m : Int) := by omega
      rcases hv1 with ⟨hn0, ao, rfl⟩ | ⟨hn0, b0, off, rfl, hc⟩
      all_goals rcases hv2 with ⟨hm0, ao2, rfl⟩ | ⟨hm0, b2, off2, rfl, hc2⟩
      all_goals
        go_enter Tryd.func62, Tryd.ntmps62
        go_wp2
        go_ret
        exact ⟨by rw [hr.out]; rfl, hF.kp⟩
theorem sPathCmp_any (v1 v2 : Value) (L K : List Int) (w : World) (h1 : Ints w v1 L) (h2 : Ints w v2 K) :
    Calls Tryd.prog 28 #[v1, v2] w fun e w' => e = .returned (.int .i64 (PC L K)) ∧ Below w.heap.size w w' := by
  have hF := Fb.start w
  go_enter Tryd.func28, Tryd.ntmps28
  go_wp2_with fail
  refine (sPathOk_any _ L _ h1).mono ?_; rintro e w1 ⟨rfl, hb1⟩
  replace hF := hF.below hb1
  replace h1 := Rows.below h1 hb1
  replace h2 := Rows.below h2 hb1
  clear hb1
  by_cases p1 : POk L
  · have d1 : decide (POk L) = true := by simp [p1]
    by_cases p2 : POk K
    · have d2 : decide (POk K) = true := by simp [p2]
      have hr : Hid (PC L K = pcmp L K) := by show PC L K = _; unfold PC; rw [if_pos ⟨p1, p2⟩]
      clear p1 p2
      go_wp2_with (first | (go_at_call 20; refine (sPathOk_any _ K _ h2).mono ?_; rintro e wx ⟨rfl, hbx⟩; replace hF := hF.below hbx; replace h1 := Rows.below h1 hbx; replace h2 := Rows.below h2 hbx; clear hbx) | (go_at_call 62; refine (l3Cmp_any _ _ L K _ h1 h2).mono ?_; rintro e wx ⟨rfl, hbx⟩; replace hF := hF.below hbx; clear hbx))
      go_ret
      exact ⟨by rw [hr.out]; rfl, hF.kp⟩
    · have d2 : decide (POk K) = false := by simp [p2]
      have hr : Hid (PC L K = 0) := by show PC L K = _; unfold PC; rw [if_neg (fun g => p2 g.2)]
      clear p1 p2
      go_wp2_with (go_at_call 20; refine (sPathOk_any _ K _ h2).mono ?_; rintro e wx ⟨rfl, hbx⟩; replace hF := hF.below hbx; clear hbx)
      go_ret
      exact ⟨by rw [hr.out]; rfl, hF.kp⟩
  · have d1 : decide (POk L) = false := by simp [p1]
    have hr : Hid (PC L K = 0) := by show PC L K = _; unfold PC; rw [if_neg (fun g => p1 g.1)]
    clear p1
    go_wp2_with fail
    go_ret
    exact ⟨by rw [hr.out]; rfl, hF.kp⟩
end Go.Proofs.YtgegmampnpgcaaaDoor
