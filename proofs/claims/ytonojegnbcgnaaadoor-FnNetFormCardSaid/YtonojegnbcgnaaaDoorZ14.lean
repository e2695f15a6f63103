/- Paths compared. Nets drawn: who tells whom, what is picked. Nets drawn: a step. -/
import Derived.Test.YtonojegnbcgnaaaDoorZ11
import Derived.Test.YtonojegnbcgnaaaDoorZ13
import Derived.Test.YtonojegnbcgnaaaDoorZ6
set_option linter.unusedSimpArgs false
set_option linter.unusedVariables false
namespace Go.Proofs.YtonojegnbcgnaaaDoor
open Go.RowKit

/-- Number by number. -/
def lex : List Int → List Int → Int
  | [], [] => 0
  | [], _ :: _ => -1
  | _ :: _, [] => 1
  | x :: L, y :: K => if icmp x y = 0 then lex L K else icmp x y
def orz (x y : Int) : Int := if x = 0 then y else x
def pcmp (L K : List Int) : Int := orz (icmp (L.length : Int) (K.length : Int)) (lex L K)
def PC (L K : List Int) : Int := if POk L ∧ POk K then pcmp L K else 0
theorem drop_at {α : Type} {L : List α} {k : Nat} {x : α} (h : L[k]? = some x) : L.drop k = x :: L.drop (k + 1) := by
  obtain ⟨hk, rfl⟩ := List.getElem?_eq_some_iff.1 h
  exact List.drop_eq_getElem_cons hk
theorem lex_step {L K : List Int} {k : Nat} {x y : Int} (hx : L[k]? = some x) (hy : K[k]? = some y) : lex (L.drop k) (K.drop k) = if icmp x y = 0 then lex (L.drop (k + 1)) (K.drop (k + 1)) else icmp x y := by
  rw [drop_at hx, drop_at hy]; rfl
theorem lex_long {L K : List Int} {k : Nat} {x : Int} (hx : L[k]? = some x) (hk : K.length ≤ k) : lex (L.drop k) (K.drop k) = 1 := by
  rw [drop_at hx, List.drop_eq_nil_of_le hk]; rfl
theorem lex_end {L K : List Int} {k : Nat} (hl : L.length ≤ k) : lex (L.drop k) (K.drop k) = if k < K.length then -1 else 0 := by
  rw [List.drop_eq_nil_of_le hl]
  by_cases h : k < K.length
  · rw [if_pos h, List.drop_eq_getElem_cons h]; rfl
  · rw [if_neg h, List.drop_eq_nil_of_le (by omega)]; rfl
theorem lex_bd : ∀ (L K : List Int), -1 ≤ lex L K ∧ lex L K ≤ 1
  | [], [] => by simp [lex]
  | [], _ :: _ => by simp [lex]
  | _ :: _, [] => by simp [lex]
  | x :: L, y :: K => by
    simp only [lex]; split
    · exact lex_bd L K
    · exact icmp_bd x y
set_option maxHeartbeats 1000000 in
theorem Compare_any (v1 v2 : Value) (L K : List Int) (w : World) (h1 : Ints w v1 L) (h2 : Ints w v2 K) :
    Calls Tryd.prog 55 #[v1, v2] w fun e w' => e = .returned (.int .i64 (lex L K)) ∧ Below w.heap.size w w' := by
  have hF := Fb.start w
  obtain ⟨n, c1, hn, hnc, hcap, hv1⟩ := h1.cases
  obtain ⟨m, c2, hm, hmc, hcap2, hv2⟩ := h2.cases
  clear h1 h2
  rcases hv1 with ⟨hn0, ao, rfl⟩ | ⟨hn0, b0, off, rfl, hc⟩
  all_goals rcases hv2 with ⟨hm0, ao2, rfl⟩ | ⟨hm0, b2, off2, rfl, hc2⟩
  all_goals
    go_enter Tryd.func55, Tryd.ntmps55
    go_wp2
    go_loopw [5, 6, 7, 8, 11] (fun s5 s6 s7 s8 s11 wr => ∃ k : Nat, k ≤ n ∧ s11 = .int .i64 k ∧ Hid (lex (L.drop k) (K.drop k) = lex L K) ∧ Fb w wr []) (fun _ _ _ _ s11 _ => n - (intOf s11).toNat)
    case atStart => exact ⟨0, Nat.zero_le _, rfl, rfl, hF⟩
    case round =>
      clear hF
      obtain ⟨k, hk, rfl, hlx, hF⟩ := hrel
      by_cases hlt : k < n
      · try (exfalso; omega)
        all_goals
          obtain ⟨x, hx⟩ := get_of hn.out hlt
          have HX := Lib.hid hx
          have g1 := hF.old (hc.out k x hx)
          clear hx
          by_cases hkm : k < m
          · try (exfalso; omega)
            all_goals
              have hge : ¬ (m : Int) ≤ (k : Int) := by omega
              obtain ⟨y, hy⟩ := get_of hm.out hkm
              have g2 := hF.old (hc2.out k y hy)
              have hst := Lib.hid (lex_step HX.out hy)
              clear hy
              obtain ⟨z, hz⟩ : ∃ z, icmp x y = z := ⟨_, rfl⟩
              by_cases h0 : z = 0
              · have hl2 : Hid (lex (L.drop (k + 1)) (K.drop (k + 1)) = lex L K) := by
                  have e := hst.out
                  rw [if_pos (hz.trans h0)] at e
                  exact e.symm.trans hlx.out
                subst h0
                go_wp2_with (go_at_call 52; refine (compare_any _ _ _).mono ?_; rintro e w' ⟨rfl, rfl⟩)
                go_roundw
                case rel => exact ⟨k + 1, by omega, by go_num, hl2, hF⟩
                case measure => simp [intOf]; omega
              · have hl2 : Hid (lex L K = z) := by
                  have e := hst.out
                  rw [if_neg (fun g => h0 (hz.symm.trans g)), hz] at e
                  exact hlx.out.symm.trans e
                have dz : (z != 0) = true := by simp [h0]
                clear h0
                go_wp2_with (go_at_call 52; refine (compare_any _ _ _).mono ?_; rintro e w' ⟨rfl, rfl⟩)
                go_ret
                exact ⟨by rw [hl2.out]; rfl, hF.kp⟩
          · have hge : (m : Int) ≤ (k : Int) := by omega
            have hl2 : Hid (lex L K = 1) := hlx.out.symm.trans (lex_long HX.out (by rw [hm.out]; omega))
            clear hkm
            go_wp2
            go_ret
            exact ⟨by rw [hl2.out]; rfl, hF.kp⟩
      · have hle := Lib.hid (lex_end (L := L) (K := K) (k := k) (by rw [hn.out]; omega))
        by_cases hkm : n < m
        · have hl2 : Hid (lex L K = -1) := hlx.out.symm.trans (hle.out.trans (if_pos (by rw [hm.out]; omega)))
          go_wp2
          go_ret
          exact ⟨by rw [hl2.out]; rfl, hF.kp⟩
        · have hl2 : Hid (lex L K = 0) := hlx.out.symm.trans (hle.out.trans (if_neg (by rw [hm.out]; omega)))
          go_wp2
          go_ret
          exact ⟨by rw [hl2.out]; rfl, hF.kp⟩
theorem or_two (x y : Int) (w : World) :
    Calls Tryd.prog 51 #[.slice (some ⟨w.heap.size, 0, none⟩) 2 2] (w.alloc (.cells #[.int .i64 x, .int .i64 y] 3)) fun e w' => e = .returned (.int .i64 (orz x y)) ∧ w' = w.alloc (.cells #[.int .i64 x, .int .i64 y] 3) := by
  refine (or_any w.heap.size 0 2 [x, y] _ ?_ (by simp)).mono ?_
  · intro i hi
    match i, hi with
    | 0, _ => simp
    | 1, _ => simp
  · rintro e w' ⟨rfl, rfl⟩
    refine ⟨?_, rfl⟩
    unfold orz
    simp only [orI_cons, orI_nil]
    by_cases hx : x = 0
    · by_cases hy : y = 0 <;> simp [hx, hy]
    · simp [hx]
set_option maxHeartbeats 1000000 in
theorem iPathCmp_any (v1 v2 : Value) (L K : List Int) (a : Addr) (w : World) (h1 : Ints w v1 L) (h2 : Ints w v2 K) (hE : EPath w a) :
    Calls Tryd.prog 53 #[v1, v2] w fun e w' => e = .returned (.int .i64 (PC L K)) ∧ Below w.heap.size w w' := by
  have hF := Fb.start w
  obtain ⟨ao, c1, rfl, -⟩ := h1.ex
  obtain ⟨ao2, c2, rfl, -⟩ := h2.ex
  go_enter Tryd.func53, Tryd.ntmps53
  go_wp2_with fail
  refine (iPathOk_any _ L a _ h1 hE).mono ?_; rintro e w1 ⟨rfl, hb1⟩
  replace hF := hF.below hb1
  replace h1 := Rows.below h1 hb1
  replace h2 := Rows.below h2 hb1
  replace hE := hE.below hb1
  clear hb1
  by_cases p1 : POk L
  · have d1 : decide (POk L) = true := by simp [p1]
    by_cases p2 : POk K
    · have d2 : decide (POk K) = true := by simp [p2]
      have hr : Hid (PC L K = pcmp L K) := by show PC L K = _; unfold PC; rw [if_pos ⟨p1, p2⟩]
      clear p1 p2
      go_wp2_with (first | (go_at_call 57; refine (iPathOk_any _ K a _ h2 hE).mono ?_; rintro e wx ⟨rfl, hbx⟩; replace hF := hF.below hbx; replace h1 := Rows.below h1 hbx; replace h2 := Rows.below h2 hbx; clear hbx) | (go_at_call 52; refine (compare_any _ _ _).mono ?_; rintro e w' ⟨rfl, rfl⟩) | (go_at_call 55; refine (Compare_any _ _ L K _ h1 h2).mono ?_; rintro e wx ⟨rfl, hbx⟩; replace hF := hF.below hbx; clear hbx) | (go_at_call 51; refine (or_two _ _ _).mono ?_; rintro e w' ⟨rfl, rfl⟩))
      go_ret
      exact ⟨by rw [hr.out]; rfl, (hF.other _).kp⟩
    · have d2 : decide (POk K) = false := by simp [p2]
      have hr : Hid (PC L K = 0) := by show PC L K = _; unfold PC; rw [if_neg (fun g => p2 g.2)]
      clear p1 p2
      go_wp2_with (go_at_call 57; refine (iPathOk_any _ K a _ h2 hE).mono ?_; rintro e wx ⟨rfl, hbx⟩; replace hF := hF.below hbx; clear hbx)
      go_ret
      exact ⟨by rw [hr.out]; rfl, hF.kp⟩
  · have d1 : decide (POk L) = false := by simp [p1]
    have hr : Hid (PC L K = 0) := by show PC L K = _; unfold PC; rw [if_neg (fun g => p1 g.1)]
    clear p1
    go_wp2_with fail
    go_ret
    exact ⟨by rw [hr.out]; rfl, hF.kp⟩
set_option maxHeartbeats 1000000 in
theorem l3Cmp_any (v1 v2 : Value) (L K : List Int) (w : World) (h1 : Ints w v1 L) (h2 : Ints w v2 K) :
    Calls Tryd.prog 108 #[v1, v2] w fun e w' => e = .returned (.int .i64 (pcmp L K)) ∧ Below w.heap.size w w' := by
  have hF := Fb.start w
  obtain ⟨n, c1, hn, hnc, hcap, hv1⟩ := h1.cases
  obtain ⟨m, c2, hm, hmc, hcap2, hv2⟩ := h2.cases
  clear h1 h2
  by_cases hnm : n = m
  · subst hnm
    have hr : Hid (pcmp L K = lex L K) := by show pcmp L K = _; unfold pcmp orz; rw [hn.out, hm.out, if_pos (by simp [icmp])]
    rcases hv1 with ⟨hn0, ao, rfl⟩ | ⟨hn0, b0, off, rfl, hc⟩
    all_goals rcases hv2 with ⟨hm0, ao2, rfl⟩ | ⟨hm0, b2, off2, rfl, hc2⟩
    all_goals try (exfalso; omega)
    all_goals
      go_enter Tryd.func108, Tryd.ntmps108
      go_wp2
      go_loopw [5] (fun s5 wr => ∃ k : Nat, k ≤ n ∧ s5 = .int .i64 k ∧ Hid (lex (L.drop k) (K.drop k) = lex L K) ∧ Fb w wr []) (fun s5 _ => n - (intOf s5).toNat)
      case atStart => exact ⟨0, Nat.zero_le _, rfl, rfl, hF⟩
      case round =>
        clear hF
        obtain ⟨k, hk, rfl, hlx, hF⟩ := hrel
        by_cases hlt : k < n
        · try (exfalso; omega)
          all_goals
            obtain ⟨p, hx⟩ := get_of hn.out hlt
            obtain ⟨q, hy⟩ := get_of hm.out hlt
            have G1 := Lib.hid (hc.out k p hx)
            have G2 := Lib.hid (hc2.out k q hy)
            have g1 := fun z : Cl wr.heap.size wr => Cl.old hF z (hc.out k p hx)
            have g2 := fun z : Cl wr.heap.size wr => Cl.old hF z (hc2.out k q hy)
            have hst := Lib.hid (lex_step hx hy)
            clear hx hy
            by_cases d1 : p < q
            · have hl2 : Hid (lex L K = -1) := by
                have e := hst.out
                have ei : icmp p q = -1 := by unfold icmp; rw [if_pos d1]
                rw [ei, if_neg (by omega)] at e
                exact hlx.out.symm.trans e
              go_wp2
              first | refine wp_region_new (by kernel_rfl) (by kernel_rfl) ?_ | refine wp_region_lex ?_
              repeat (any_goals (first | go_big_quiet_step ((fail)) | (refine wpQuiet_step (fun K hK => ?_); go_simp; split <;> (rename_i hg; refine hK _ ?_; clear hK K; simp only [hg, decide_true, decide_false]))))
              all_goals (refine wpQuiet_nil ?_; intro x)
              go_wp2
              go_ret
              exact ⟨by rw [hr.out, hl2.out]; rfl, (hF.cl x).kp⟩
            · by_cases d2 : q < p
              · have hl2 : Hid (lex L K = 1) := by
                  have e := hst.out
                  have ei : icmp p q = 1 := by unfold icmp; rw [if_neg d1, if_pos d2]
                  rw [ei, if_neg (by omega)] at e
                  exact hlx.out.symm.trans e
                go_wp2
                first | refine wp_region_new (by kernel_rfl) (by kernel_rfl) ?_ | refine wp_region_lex ?_
                repeat (any_goals (first | go_big_quiet_step ((fail)) | (refine wpQuiet_step (fun K hK => ?_); go_simp; split <;> (rename_i hg; refine hK _ ?_; clear hK K; simp only [hg, decide_true, decide_false]))))
                all_goals (refine wpQuiet_nil ?_; intro x)
                have hF := hF.cl x
                have g1 := fun z : Cl x.W.heap.size x.W => Cl.old hF z G1.out
                have g2 := fun z : Cl x.W.heap.size x.W => Cl.old hF z G2.out
                go_wp2
                first | refine wp_region_new (by kernel_rfl) (by kernel_rfl) ?_ | refine wp_region_lex ?_
                repeat (any_goals (first | go_big_quiet_step ((fail)) | (refine wpQuiet_step (fun K hK => ?_); go_simp; split <;> (rename_i hg; refine hK _ ?_; clear hK K; simp only [hg, decide_true, decide_false]))))
                all_goals (refine wpQuiet_nil ?_; intro x)
                go_wp2
                go_ret
                exact ⟨by rw [hr.out, hl2.out]; rfl, (hF.cl x).kp⟩
              · have hl2 : Hid (lex (L.drop (k + 1)) (K.drop (k + 1)) = lex L K) := by
                  have e := hst.out
                  have ei : icmp p q = 0 := by unfold icmp; rw [if_neg d1, if_neg d2]
                  rw [ei, if_pos rfl] at e
                  exact e.symm.trans hlx.out
                go_wp2
                first | refine wp_region_new (by kernel_rfl) (by kernel_rfl) ?_ | refine wp_region_lex ?_
                repeat (any_goals (first | go_big_quiet_step ((fail)) | (refine wpQuiet_step (fun K hK => ?_); go_simp; split <;> (rename_i hg; refine hK _ ?_; clear hK K; simp only [hg, decide_true, decide_false]))))
                all_goals (refine wpQuiet_nil ?_; intro x)
                have hF := hF.cl x
                have g1 := fun z : Cl x.W.heap.size x.W => Cl.old hF z G1.out
                have g2 := fun z : Cl x.W.heap.size x.W => Cl.old hF z G2.out
                go_wp2
                first | refine wp_region_new (by kernel_rfl) (by kernel_rfl) ?_ | refine wp_region_lex ?_
                repeat (any_goals (first | go_big_quiet_step ((fail)) | (refine wpQuiet_step (fun K hK => ?_); go_simp; split <;> (rename_i hg; refine hK _ ?_; clear hK K; simp only [hg, decide_true, decide_false]))))
                all_goals (refine wpQuiet_nil ?_; intro x)
                go_wp2
                go_roundw
                case rel => exact ⟨k + 1, by omega, by go_num, hl2, hF.cl x⟩
                case measure => simp [intOf]; omega
        · have hl2 : Hid (lex L K = 0) := hlx.out.symm.trans ((lex_end (by rw [hn.out]; omega)).trans (if_neg (by rw [hm.out]; omega)))
          go_wp2
          go_ret
          exact ⟨by rw [hr.out, hl2.out]; rfl, hF.kp⟩
  · have dnm : ((n : Int) != (m : Int)) = true := by simp; omega
    by_cases hlt : n < m
    · have hr : Hid (pcmp L K = -1) := by
        have ei : icmp (n : Int) (m : Int) = -1 := by unfold icmp; rw [if_pos (by omega)]
        show pcmp L K = _; unfold pcmp orz; rw [hn.out, hm.out, ei, if_neg (by omega)]
      have hl : (n : Int) < (m : Int) := by omega
      rcases hv1 with ⟨hn0, ao, rfl⟩ | ⟨hn0, b0, off, rfl, hc⟩
      all_goals rcases hv2 with ⟨hm0, ao2, rfl⟩ | ⟨hm0, b2, off2, rfl, hc2⟩
      all_goals
        go_enter Tryd.func108, Tryd.ntmps108
        go_wp2
        go_ret
        exact ⟨by rw [hr.out]; rfl, hF.kp⟩
    · have hr : Hid (pcmp L K = 1) := by
        have ei : icmp (n : Int) (m : Int) = 1 := by unfold icmp; rw [if_neg (by omega), if_pos (by omega)]
        show pcmp L K = _; unfold pcmp orz; rw [hn.out, hm.out, ei, if_neg (by omega)]
      have hl : ¬ (n : Int) < (m : Int) := by omega
      rcases hv1 with ⟨hn0, ao, rfl⟩ | ⟨hn0, b0, off, rfl, hc⟩
      all_goals rcases hv2 with ⟨hm0, ao2, rfl⟩ | ⟨hm0, b2, off2, rfl, hc2⟩
      all_goals
        go_enter Tryd.func108, Tryd.ntmps108
        go_wp2
        go_ret
        exact ⟨by rw [hr.out]; rfl, hF.kp⟩
end Go.Proofs.YtonojegnbcgnaaaDoor
set_option linter.unusedSimpArgs false
set_option linter.unusedVariables false
namespace Go.Proofs.YtonojegnbcgnaaaDoor
open Go.RowKit Go.Maps Go.WideMaps

set_option maxHeartbeats 1000000 in
theorem l31Tells_any (v pv : Value) (M : List (List Int)) (P : List Int) (n : Nat) (hn : Hid (M.length = n)) (HP : Hid (RelsP M)) (h t : Int) (w : World) (hM : Mat w v M) (hp : Ints w pv P) (hx : ∀ x ∈ P, Bts x 1 n) (hh : Bts h 1 n) (ht : Bts t 1 n) :
    Calls Tryd.prog 121 #[v, pv, .int .i64 h, .int .i64 t] w fun e w' => ∃ C : Bool, e = .returned (.bool C) ∧ Below w.heap.size w w' := by
  have hF := Fb.start w
  obtain ⟨ao, m, cap, rfl, hm, hmc, hcap⟩ := Ints.sl hp
  have HX := Lib.hid hx
  clear hx
  go_enter Tryd.func121, Tryd.ntmps121
  by_cases hm0 : m = 0
  · subst hm0
    go_wp2
    go_ret
    exact ⟨_, rfl, hF.kp⟩
  · have d0 : ((m : Int) == 0) = false := by rw [beq_eq_false_iff_ne]; omega
    have d0' : (m == 0) = false := by rw [beq_eq_false_iff_ne]; omega
    have hHas := l3Has_any _ P t w hp
    obtain ⟨C, hC⟩ : ∃ C, decide (t ∈ P) = C := ⟨_, rfl⟩
    rw [hC] at hHas
    have HH := Lib.hid hHas
    clear hHas hC
    go_wp2_with fail
    refine HH.out.mono ?_; rintro e w1 ⟨rfl, hb1⟩
    replace hF := hF.below hb1
    replace hM := hM.below hb1
    have hp1 := Rows.below hp hb1
    clear hb1 HH hp
    cases C with
    | true =>
      go_wp2
      go_ret
      exact ⟨_, rfl, hF.kp⟩
    | false =>
      by_cases hm1 : 1 < m
      · obtain ⟨b1, p1, rfl⟩ := Ints.some hp1 (by omega)
        obtain ⟨y, hy⟩ := get_of hm.out hm1
        have cy := Ints.get hp1 hy
        have hby : Bts y 0 n := by have := HX.out y (List.mem_of_getElem? hy); unfold Bts at *; omega
        have hC := Lib.hid (l12May_any v M n hn HP h y t w1 hM hh hby ht)
        have d1 : decide (1 < (m : Int)) = true := decide_eq_true (by omega)
        have d1' : decide (1 < m) = true := decide_eq_true hm1
        clear hm0 hp1 hy hM hby hh ht
        go_wp2_with fail
        refine hC.out.mono ?_; rintro e w2 ⟨rfl, hb2⟩
        replace hF := hF.below hb2
        go_wp2
        go_ret
        exact ⟨_, rfl, hF.kp⟩
      · have hb0 : Bts 0 0 n := by unfold Bts; omega
        have hC := Lib.hid (l12May_any v M n hn HP h 0 t w1 hM hh hb0 ht)
        have d1 : decide (1 < (m : Int)) = false := decide_eq_false (by omega)
        have d1' : decide (1 < m) = false := decide_eq_false hm1
        clear hm0 hp1 hM hb0 hh ht
        go_wp2_with fail
        refine hC.out.mono ?_; rintro e w2 ⟨rfl, hb2⟩
        replace hF := hF.below hb2
        go_wp2
        go_ret
        exact ⟨_, rfl, hF.kp⟩
/-- Ways of at most K houses. -/
def WaysK (n K : Nat) (W : List (List Int)) : Prop := ∀ P ∈ W, P.length ≤ K ∧ ∀ x ∈ P, Bts x 1 n
set_option maxRecDepth 100000 in
set_option maxHeartbeats 4000000 in
theorem l31Pick_any (v u : Value) (M W : List (List Int)) (n K : Nat) (hn : Hid (M.length = n)) (HP : Hid (RelsP M)) (home h : Int) (w : World) (hM : Mat w v M) (hW : GLs shI w u W) (hWl : W.length = n) (hK : WaysK n K W) (hK2 : K ≤ 1000) (hh : Bts h 1 n) (hho : Bts home 1 n) :
    Calls Tryd.prog 118 #[v, .int .i64 home, u, .int .i64 h] w fun e w' => ∃ (u : Value) (L : List Int), e = .returned u ∧ Own 3 w' w.heap.size u 1 encI L ∧ L.length ≤ K + 1 ∧ (∀ x ∈ L, Bts x 1 n) ∧ Below w.heap.size w w' := by
  obtain ⟨mo, m, mcap, rfl, hm, hmc, hmcap⟩ := GLs.sl hM.gls
  obtain rfl : m = n := hm.out.symm.trans hn.out
  obtain ⟨ao, m', cap, rfl, hm2, hmc2, hcap2⟩ := GLs.sl hW
  obtain rfl : m' = m := hm2.out.symm.trans hWl
  clear hm hWl
  have hm5 : m' ≤ 5 := by have := HP.out.2.2; have := hn.out; omega
  have HM := Lib.hid hM
  have HW := Lib.hid hW
  have HK := Lib.hid hK
  have HHH := Lib.hid hh
  clear hM hW hK
  go_enter Tryd.func118, Tryd.ntmps118
  by_cases heq : h = home
  · subst heq
    have hO : Own 3 (w.alloc (.cells #[.int .i64 h] 3)) w.heap.size (.slice (some ⟨w.heap.size, 0, none⟩) 1 1) 1 encI [h] := Own.lit 3 w w.heap.size 1 encI [h] (fun _ => rfl) (Nat.le_refl _) (by simp)
    have hF := (Fb.start w).other (.cells #[.int .i64 h] 3)
    clear hho hh
    go_wp2
    go_ret
    exact ⟨_, [h], rfl, hO, by simp, fun x hx => by rw [List.mem_singleton.1 hx]; exact HHH.out, hF.kp⟩
  · have dh : (h == home) = false := by rw [beq_eq_false_iff_ne]; exact heq
    have hF := (Fb.start w).other (.cells #[] 3)
    have hO : Own 3 (w.alloc (.cells #[] 3)) w.heap.size (.slice (some ⟨w.heap.size, 0, none⟩) 0 0) 1 encI [] := Own.made _ _ _ _ _ (Nat.le_refl _)
    clear heq hho hh
    go_wp2
    go_loopw [10, 11, 12, 9] (fun s10 s11 s12 s9 wr => ∃ (r : Nat) (L : List Int), r ≤ 3 ∧ s10 = .int .i64 ((r : Int) + 1) ∧ Own 3 wr w.heap.size s9 1 encI L ∧ Hid (L.length ≤ K + 1 ∧ ∀ x ∈ L, Bts x 1 m') ∧ Fb w wr [] ∧ w.heap.size ≤ wr.heap.size) (fun s10 _ _ _ _ => 4 - (intOf s10).toNat)
    case atStart => exact ⟨0, [], by omega, rfl, hO, ⟨by simp, fun x hx => by simp at hx⟩, hF, by simp⟩
    case round =>
      clear hO hF
      obtain ⟨r, L, hr, rfl, hO, hL, hF, hsz⟩ := hrel
      obtain ⟨bo, bcap, rfl⟩ := hO.sl
      obtain ⟨l, hl⟩ : ∃ l, Hid (L.length = l) := ⟨_, rfl⟩
      rw [hl.out] at hO ⊢
      by_cases hgo : r < 3 ∧ l = 0
      · obtain ⟨hr3, hl0⟩ := hgo
        have d1 : decide ((r : Int) + 1 ≤ 3) = true := decide_eq_true (by omega)
        subst hl0
        have hL0 : L = [] := List.length_eq_zero_iff.1 hl.out
        subst hL0
        clear hl
        go_wp2
        go_loopw [11, 12, 9] (fun s11 s12 s9 wq => ∃ (b : Nat) (L : List Int), b ≤ m' ∧ s11 = .int .i64 ((b : Int) + 1) ∧ Own 3 wq w.heap.size s9 1 encI L ∧ Hid (L.length ≤ K + 1 ∧ ∀ x ∈ L, Bts x 1 m') ∧ Fb w wq [] ∧ w.heap.size ≤ wq.heap.size) (fun s11 _ _ _ => m' + 1 - (intOf s11).toNat)
        case atStart => exact ⟨0, [], by omega, rfl, hO, hL, hF, hsz⟩
        case round =>
          clear hO hF hL hsz
          obtain ⟨b, L, hb, rfl, hO, hL, hF, hsz⟩ := hrel
          obtain ⟨co, ccap, rfl⟩ := hO.sl
          obtain ⟨l, hl⟩ : ∃ l, Hid (L.length = l) := ⟨_, rfl⟩
          rw [hl.out] at hO ⊢
          by_cases hlt : b < m'
          · have d2 : decide ((b : Int) + 1 ≤ (m' : Int)) = true := decide_eq_true (by omega)
            have hbb : Bts ((b : Int) + 1) 1 m' := by unfold Bts; omega
            have cO := Lib.hid (l12Of_r _ M m' hn HP h ((b : Int) + 1) wr (HM.out.below hF.kp) HHH.out hbb)
            obtain ⟨b1, p1, rfl⟩ := GLs.adr HW.out (by omega)
            obtain ⟨P, hP⟩ := get_of hm2.out hlt
            have hPK := Lib.hid (HK.out P (List.mem_of_getElem? hP))
            obtain ⟨a1, m1, c1, e1, i1, hm1, -, -⟩ := GLs.atI HW.out hP
            have q1 : IntKind.i64.wrap ((b : Int) + 1 - 1) = (b : Int) := by rw [show (b : Int) + 1 - 1 = (b : Int) by omega]; exact IntWalk.i64_in _ (by omega)
            go_wp2_with fail
            refine cO.out.mono ?_; rintro e w2 ⟨rfl, hb2⟩
            replace hF := hF.below hb2
            replace hO := hO.below hb2
            have hsz2 := Nat.le_trans hsz hb2.size
            clear hb2 cO hsz
            by_cases hrel : mgi M h ((b : Int) + 1) = (r : Int) + 1
            · have d3 : (mgi M h ((b : Int) + 1) != (r : Int) + 1) = false := by simp [hrel]
              have x1 := hF.old e1
              have hp := Rows.below i1 hF.kp
              have cT := Lib.hid (l31Tells_any _ _ M P m' hn HP ((b : Int) + 1) h w2 (HM.out.below hF.kp) hp hPK.out.2 hbb HHH.out)
              clear hrel i1 hP
              go_wp2_with fail
              refine cT.out.mono ?_; rintro e w3 ⟨C, rfl, hb3⟩
              replace hF := hF.below hb3
              replace hO := hO.below hb3
              replace hp := Rows.below hp hb3
              have hsz3 := Nat.le_trans hsz2 hb3.size
              clear hb3 cT hsz2 x1
              cases C with
              | true =>
                have hA := Rows.alloc hp (.cells #[.int .i64 h] 3)
                have hO4 : Own 3 (w3.alloc (.cells #[.int .i64 h] 3)) w.heap.size (.slice (some ⟨w3.heap.size, 0, none⟩) 1 1) 1 encI [h] := Own.lit 3 w3 w.heap.size 1 encI [h] (fun _ => rfl) hsz3 (by simp)
                have hF4 := hF.other (.cells #[.int .i64 h] 3)
                have x1 := hF4.old e1
                have hlo := Lib.hid (hO.alloc (.cells #[.int .i64 h] 3))
                have hlt9 := Lib.hid hO.lt
                have hK4 := hPK.out.1
                have hL4 : Hid (([h] ++ P).length ≤ K + 1 ∧ ∀ x ∈ [h] ++ P, Bts x 1 m') := ⟨by simp; omega, fun x hx => by
                  rcases List.mem_append.1 hx with hx | hx
                  · rw [List.mem_singleton.1 hx]; exact HHH.out
                  · exact hPK.out.2 x hx⟩
                clear hF hO e1 hp
                by_cases hl0 : l = 0
                · subst hl0
                  go_wp2_with ((at_builtin; go_must (refine wpList_appsZ rfl _ _ 25 rfl 3 (.int .i64 0) 1 8 Tryd.underlying25 infoInt rfl (by decide) (by decide) w.heap.size encI (fun _ => rfl) _ [h] rfl hO4 (.slice a1 m1 c1) P (fun _ _ u hu => by simp [encI] at hu; subst hu; rfl) rfl hA (by simp; omega) (by simp only [World.size_alloc]; omega) ?_); intro v' wx hO1 hg1 hb1 hf1; (have hF5 := hF4.belowB hb1 (Nat.le_refl _) (by simp); have hsz5 := hb1.size; simp only [World.size_alloc] at hsz5; clear hg1 hb1 hf1)))
                  go_roundw
                  case rel => exact ⟨b + 1, [h] ++ P, by omega, by go_num, hO1, hL4, hF5, by omega⟩
                  case measure => simp [intOf]; omega
                · have dl : ((l : Int) == 0) = false := by rw [beq_eq_false_iff_ne]; omega
                  have dl' : (l == 0) = false := by rw [beq_eq_false_iff_ne]; omega
                  go_wp2_with ((at_builtin; go_must (refine wpList_appsZ rfl _ _ 25 rfl 3 (.int .i64 0) 1 8 Tryd.underlying25 infoInt rfl (by decide) (by decide) w.heap.size encI (fun _ => rfl) _ [h] rfl hO4 (.slice a1 m1 c1) P (fun _ _ u hu => by simp [encI] at hu; subst hu; rfl) rfl hA (by simp; omega) (by simp only [World.size_alloc]; omega) ?_); intro v' wx hO1 hg1 hb1 hf1; (have hF5 := hF4.belowB hb1 (Nat.le_refl _) (by simp); have hsz5 := hb1.size; simp only [World.size_alloc] at hsz5; have hlo5 := Own.far (row := some w3.heap.size) hlo.out hg1 (fun g h1 e => by injection e with e; have := hlt9.out g h1; omega); clear hg1 hb1 hf1)))
                  refine (l3Cmp_any _ _ ([h] ++ P) L _ (hO1.rows (fun _ => rfl)) (hlo5.rows (fun _ => rfl))).mono ?_; rintro e w6 ⟨rfl, hb6⟩
                  replace hF5 := hF5.below hb6
                  replace hO1 := hO1.below hb6
                  replace hlo5 := hlo5.below hb6
                  have hsz6 := hb6.size
                  clear hb6 hA hO4 hF4 hlo x1
                  obtain ⟨c, hc⟩ : ∃ c, pcmp ([h] ++ P) L = c := ⟨_, rfl⟩
                  rw [hc]
                  by_cases hc0 : c < 0
                  · have dc : decide (c < 0) = true := decide_eq_true hc0
                    clear hc
                    go_wp2
                    go_roundw
                    case rel => exact ⟨b + 1, [h] ++ P, by omega, by go_num, hO1, hL4, hF5, by omega⟩
                    case measure => simp [intOf]; omega
                  · have dc : decide (c < 0) = false := decide_eq_false hc0
                    clear hc
                    go_wp2
                    go_roundw
                    case rel => exact ⟨b + 1, L, by omega, by go_num, by have h9 := hl.out; subst h9; exact hlo5, hL, hF5, by omega⟩
                    case measure => simp [intOf]; omega
              | false =>
                go_wp2
                go_roundw
                case rel => exact ⟨b + 1, L, by omega, by go_num, by have h9 := hl.out; subst h9; exact hO, hL, hF, hsz3⟩
                case measure => simp [intOf]; omega
            · have d3 : (mgi M h ((b : Int) + 1) != (r : Int) + 1) = true := by simp [hrel]
              clear hrel i1 hP e1
              go_wp2
              go_roundw
              case rel => exact ⟨b + 1, L, by omega, by go_num, by have h9 := hl.out; subst h9; exact hO, hL, hF, hsz2⟩
              case measure => simp [intOf]; omega
          · have d2 : decide ((b : Int) + 1 ≤ (m' : Int)) = false := decide_eq_false (by omega)
            go_wp2
            go_roundw
            case rel => exact ⟨r + 1, L, by omega, by go_num, by have h9 := hl.out; subst h9; exact hO, hL, hF, hsz⟩
            case measure => simp [intOf]; omega
      · have hend : ¬ (r < 3) ∨ l ≠ 0 := by omega
        by_cases hr3 : r < 3
        · have d1 : decide ((r : Int) + 1 ≤ 3) = true := decide_eq_true (by omega)
          have d2 : ((l : Int) == 0) = false := by rw [beq_eq_false_iff_ne]; omega
          have d2' : (l == 0) = false := by rw [beq_eq_false_iff_ne]; omega
          clear hend hgo
          go_wp2
          go_ret
          exact ⟨_, L, rfl, by have h9 := hl.out; subst h9; exact hO, hL.out.1, hL.out.2, hF.kp⟩
        · have d1 : decide ((r : Int) + 1 ≤ 3) = false := decide_eq_false (by omega)
          clear hend hgo
          go_wp2
          go_ret
          exact ⟨_, L, rfl, by have h9 := hl.out; subst h9; exact hO, hL.out.1, hL.out.2, hF.kp⟩
end Go.Proofs.YtonojegnbcgnaaaDoor
set_option linter.unusedSimpArgs false
set_option linter.unusedVariables false
namespace Go.Proofs.YtonojegnbcgnaaaDoor
open Go.RowKit Go.Maps Go.WideMaps

theorem WaysK.mono {n K K' : Nat} {W : List (List Int)} (h : WaysK n K W) (hk : K ≤ K') : WaysK n K' W := fun P hP => ⟨Nat.le_trans (h P hP).1 hk, (h P hP).2⟩
theorem WaysK.snoc {n K : Nat} {W : List (List Int)} {P : List Int} (h : WaysK n K W) (h1 : P.length ≤ K) (h2 : ∀ x ∈ P, Bts x 1 n) : WaysK n K (W ++ [P]) := fun R hR => by
  rcases List.mem_append.1 hR with hR | hR
  · exact h R hR
  · rw [List.mem_singleton.1 hR]; exact ⟨h1, h2⟩
set_option maxRecDepth 100000 in
set_option maxHeartbeats 4000000 in
theorem l31Step_any (v u : Value) (M W : List (List Int)) (n K : Nat) (hn : Hid (M.length = n)) (HP : Hid (RelsP M)) (home h : Int) (w : World) (hM : Mat w v M) (hW : GLs shI w u W) (hWl : W.length = n) (hK : WaysK n K W) (hK2 : K ≤ 1000) (hh : Bts h 1 n) (hho : Bts home 1 n) :
    Calls Tryd.prog 104 #[v, .int .i64 home, u, .int .i64 h] w fun e w' => ∃ (u : Value) (W' : List (List Int)), e = .returned u ∧ GOwn shI 25 w' w.heap.size u W' ∧ W'.length = n ∧ WaysK n (K + 1) W' ∧ Below w.heap.size w w' := by
  have hn5 : n ≤ 5 := by have := HP.out.2.2; have := hn.out; omega
  obtain ⟨ao, m', cap, rfl, hm2, hmc2, hcap2⟩ := GLs.sl hW
  obtain rfl : m' = n := hm2.out.symm.trans hWl
  clear hWl
  have HM := Lib.hid hM
  have HW := Lib.hid hW
  have HK := Lib.hid hK
  have HHH := Lib.hid hh
  have HHO := Lib.hid hho
  have hF := (Fb.start w).other (.cells #[] 25)
  have hO : GOwn shI 25 (w.alloc (.cells #[] 25)) w.heap.size (.slice (some ⟨w.heap.size, 0, none⟩) 0 0) [] := GOwn.made _ _ _ (Nat.le_refl _)
  clear hM hW hK hh hho
  go_enter Tryd.func104, Tryd.ntmps104
  go_wp2
  go_loopw [9, 10] (fun s9 s10 wr => ∃ (k : Nat) (R : List (List Int)), k ≤ m' ∧ s10 = .int .i64 k ∧ R.length = k ∧ Hid (WaysK m' (K + 1) R) ∧ GOwn shI 25 wr w.heap.size s9 R ∧ Fb w wr [] ∧ w.heap.size ≤ wr.heap.size) (fun _ s10 _ => m' - (intOf s10).toNat)
  case atStart => exact ⟨0, [], Nat.zero_le _, rfl, rfl, fun P hP => by simp at hP, hO, hF, by simp⟩
  case round =>
    clear hO hF
    obtain ⟨k, R, hk, rfl, hRl, hRK, hO, hF, hsz⟩ := hrel
    by_cases hlt : k < m'
    · obtain ⟨b1, p1, rfl⟩ := GLs.adr HW.out (by omega)
      obtain ⟨P, hP⟩ := get_of hm2.out hlt
      have hPK := Lib.hid (HK.out P (List.mem_of_getElem? hP))
      obtain ⟨a1, m1, c1, e1, i1, hm1, -, -⟩ := GLs.atI HW.out hP
      by_cases hkh : (k : Int) + 1 = h
      · have dh : (((k : Int) + 1) == h) = true := by simp [hkh]
        have cP := Lib.hid (l31Pick_any v _ M W m' K hn HP home h wr (HM.out.below hF.kp) (HW.out.below hF.kp) hm2.out HK.out hK2 HHH.out HHO.out)
        clear hkh hP e1 i1
        go_wp2_with fail
        refine cP.out.mono ?_; rintro e w2 ⟨u2, L, rfl, hOu, hLl, hLx, hb2⟩
        have hlo := Lib.hid hO.lt
        have hge := Lib.hid hOu.ge
        have hlu := Lib.hid hOu.lt
        replace hF := hF.below hb2
        replace hO := hO.below hb2
        have hsz2 := hb2.size
        obtain ⟨ds, hO1, hG⟩ := hO
        have hdl : ds.length = k := hG.1.trans hRl
        obtain ⟨a2, c2, rfl⟩ := hOu.sl
        have HG := Lib.hid hG
        have hrd := Lib.hid (hOu.rows (fun _ => rfl))
        have hRK2 : Hid (WaysK m' (K + 1) (R ++ [L])) := hRK.out.snoc hLl hLx
        clear hb2 cP hG hOu hLx
        go_wp2_with ((at_builtin; refine wpList_app rfl _ _ 49 rfl 25 (.slice none 0 0) 1 24 Tryd.underlying49 infoRow rfl (by decide) (by decide) w.heap.size encV _ _ rfl (hO1.alloc _) ((.slice a2 L.length c2)) ⟨_, 0, none⟩ 1 rfl rfl (cells_new' _ _ _ (by simp)) (by simp [encV, Value.oneCell']) (by omega) (by simp only [World.size_alloc]; omega) ?_; intro v' wx hO1 hg1 hb1 hf1; (have hO2 : GOwn shI 25 wx w.heap.size v' (R ++ [L]) := (by exact ⟨_, hO1, GRel.snoc HG.out (Nat.le_refl _) ((Below.refl _ _).alloc (Nat.le_refl _) _) hg1 hf1 (Rows.alloc hrd.out _) (fun u hu => by rw [List.mem_singleton.1 hu]; exact ⟨fun g h1 h2 => (by have := hlo.out g h2; have := hge.out g h1; omega), fun g h1 => (by have := hge.out g h1; have := hlu.out g h1; simp only [World.size_alloc]; omega)⟩)⟩); have hF2 := (hF.other _).belowB hb1 (Nat.le_refl _) (by simp); have hsz9 := hb1.size; simp only [World.size_alloc] at hsz9; clear hO1 hg1 hb1 hf1)))
        go_roundw
        case rel => exact ⟨k + 1, R ++ [L], by omega, by go_num, by simp [hRl], hRK2, hO2, hF2, by omega⟩
        case measure => simp [intOf]; omega
      · have dh : (((k : Int) + 1) == h) = false := by simp [hkh]
        have hlo := Lib.hid hO.lt
        obtain ⟨ds, hO1, hG⟩ := hO
        have hdl : ds.length = k := hG.1.trans hRl
        have HG := Lib.hid hG
        have hF4 := hF.other (.cells #[] 3)
        have x1 := hF4.old e1
        have hA := Rows.alloc (Rows.below i1 hF.kp) (.cells #[] 3)
        have hO4 : Own 3 (wr.alloc (.cells #[] 3)) wr.heap.size (.slice (some ⟨wr.heap.size, 0, none⟩) 0 0) 1 encI [] := Own.made _ _ _ _ _ (Nat.le_refl _)
        have hPl := hPK.out.1
        have hRK2 : Hid (WaysK m' (K + 1) (R ++ [P])) := hRK.out.snoc (Nat.le_succ_of_le hPl) hPK.out.2
        have tok1 : True := trivial
        clear hkh hP e1 i1 hG hF
        go_wp2_with (first
          | (clear tok1; (at_builtin; go_must (refine wpList_appsZ rfl _ _ 25 rfl 3 (.int .i64 0) 1 8 Tryd.underlying25 infoInt rfl (by decide) (by decide) wr.heap.size encI (fun _ => rfl) _ [] rfl hO4 (.slice a1 m1 c1) P (fun _ _ u hu => by simp [encI] at hu; subst hu; rfl) rfl hA (by simp; omega) (by simp only [World.size_alloc]; omega) ?_); intro vz wz hOz hgz hbz hfz; (rw [List.nil_append] at hOz; have hF5 := hF4.belowB hbz (by omega) (by simp); have hbq := ((Below.refl wr.heap.size wr).alloc (Nat.le_refl _) (.cells #[] 3)).trans hbz; have hO5 := hO1.below hbq; obtain ⟨a2, c2, rfl⟩ := hOz.sl; have hge := Lib.hid hOz.ge; have hlu := Lib.hid hOz.lt; have hrd := Lib.hid (hOz.rows (fun _ => rfl)); have hsz2 := hbz.size; simp only [World.size_alloc] at hsz2; have HG2 := Lib.hid (HG.out.below hbq); clear hbq hOz hgz hbz hfz hO1 HG hF4 hO4 hA x1)))
          | (at_builtin; refine wpList_app rfl _ _ 49 rfl 25 (.slice none 0 0) 1 24 Tryd.underlying49 infoRow rfl (by decide) (by decide) w.heap.size encV _ _ rfl (hO5.alloc _) ((.slice a2 P.length c2)) ⟨_, 0, none⟩ 1 rfl rfl (cells_new' _ _ _ (by simp)) (by simp [encV, Value.oneCell']) (by omega) (by simp only [World.size_alloc]; omega) ?_; intro v' wx hO1 hg1 hb1 hf1; (have hO2 : GOwn shI 25 wx w.heap.size v' (R ++ [P]) := (by exact ⟨_, hO1, GRel.snoc HG2.out (by omega) ((Below.refl _ _).alloc (Nat.le_refl _) _) hg1 hf1 (Rows.alloc hrd.out _) (fun u hu => by rw [List.mem_singleton.1 hu]; exact ⟨fun g h1 h2 => (by have := hlo.out g h2; have := hge.out g h1; omega), fun g h1 => (by have := hge.out g h1; have := hlu.out g h1; simp only [World.size_alloc]; omega)⟩)⟩); have hF2 := (hF5.other _).belowB hb1 (Nat.le_refl _) (by simp); have hsz9 := hb1.size; simp only [World.size_alloc] at hsz9; clear hO1 hg1 hb1 hf1)))
        go_roundw
        case rel => exact ⟨k + 1, R ++ [P], by omega, by go_num, by simp [hRl], hRK2, hO2, hF2, by omega⟩
        case measure => simp [intOf]; omega
    · have hkn : k = m' := by omega
      subst hkn
      go_wp2
      go_ret
      exact ⟨_, R, rfl, hO, hRl, hRK.out, hF.kp⟩
end Go.Proofs.YtonojegnbcgnaaaDoor
