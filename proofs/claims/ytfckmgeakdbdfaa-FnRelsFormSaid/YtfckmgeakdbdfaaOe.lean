/- The order of the reference. -/
import Derived.Test.YtfckmgeakdbdfaaOd
import Derived.Test.YtfckmgeakdbdfaaLi
set_option linter.unusedSimpArgs false
set_option linter.unusedVariables false
namespace Go.Proofs.Ytfckmgeakdbdfaa
open Go.RowKit

set_option maxHeartbeats 2000000 in
theorem l12Order_any (v0 : Value) (M : List (List Int)) (w : World) (hp : RelsP M) (hM : Mat w v0 M) :
    Calls Try.prog 55 #[v0] w fun e w' => ∃ u, e = .returned u ∧ Ints w' u (ord M) ∧ Below w.heap.size w w' := by
  obtain ⟨j0, hj, hy0, hy1, hy2⟩ := info_parts infoInt
  obtain ⟨ao, n, cap, rfl, hn, hn63⟩ := hM.sl
  have hn5 : n ≤ 5 := by have := hp.2.2; have := hn.out; omega
  have HP := Lib.hid hp
  have HM := Lib.hid hM
  have hF := (Fb.start w).other (.cells #[] 3)
  have hO : (w.alloc (.cells #[] 3)).ownsRow w.heap.size 3 1 (.slice (some ⟨w.heap.size, 0, none⟩) 0 0) 0 (([] : List Int).map (Value.int .i64)) := World.ownsRow_made (hb := Nat.le_refl _) (hm := Nat.zero_le _) (hs := rfl)
  clear hp hM
  go_enter Try.func55, Try.ntmps55
  go_wp2
  go_loopw [3, 4] (fun v i wr => ∃ (j m : Nat), j ≤ n ∧ i = .int .i64 j ∧ Hid ((grow M j).length = m) ∧ m ≤ j ∧ wr.ownsRow w.heap.size 3 1 v m ((grow M j).map (Value.int .i64)) ∧ Fb w wr []) (fun _ i _ => n - (intOf i).toNat)
  case atStart => exact ⟨0, 0, Nat.zero_le _, rfl, rfl, Nat.le_refl _, hO, hF⟩
  case round =>
    clear hF hO
    obtain ⟨j, m, hjn, rfl, hlen, hmj, hO, hF⟩ := hrel
    obtain ⟨al, cs, rfl⟩ := own_sl hO
    obtain ⟨G, hG⟩ : ∃ G, Hid (grow M j = G) := ⟨_, rfl⟩
    rw [hG.out] at hO
    replace hlen : Hid (G.length = m) := by show G.length = m; rw [← hG.out]; exact hlen.out
    have HI : Hid (Ints wr (.slice al m cs) G) := ints_own hO hlen.out
    by_cases hlt : j < n
    · go_wp2
      obtain ⟨wo, rfl⟩ : ∃ wo : World, wo = wr := ⟨_, rfl⟩
      go_loopw [3, 5] (fun v i wr => ∃ k : Nat, k ≤ n ∧ v = .slice al m cs ∧ i = .int .i64 ((k : Int) + 1) ∧ Hid (None' M G k) ∧ wr.ownsRow w.heap.size 3 1 (.slice al m cs) m (G.map (Value.int .i64)) ∧ Hid (Ints wr (.slice al m cs) G) ∧ Fb w wr []) (fun _ i _ => n + 1 - (intOf i).toNat)
      case atStart => exact ⟨0, Nat.zero_le _, rfl, rfl, (by intro c hc; omega), hO, HI, hF⟩
      case round =>
        clear hF hO HI
        obtain ⟨k, hk, rfl, rfl, hno, hO, HI, hF⟩ := hrel
        by_cases hlk : k < n
        · have hle : (k : Int) + 1 ≤ n := by omega
          have hb1 : Hid (Bts ((k : Int) + 1) 1 n) := ⟨by omega, hle⟩
          by_cases hm : ((k : Int) + 1) ∈ G
          · have d1 : decide (((k : Int) + 1) ∈ G) = true := by simp [hm]
            have hno' : Hid (None' M G (k + 1)) := none_step hno.out (fun g => g.1 hm)
            have hb2 := hb1
            clear hm
            go_wp2_with (first | (go_at_call 44; go_must (refine (l12Of_r _ M n hn HP _ _ _ (HM.out.below hF.kp) hb1.out hb2.out).mono ?_); rintro e wx ⟨rfl, hbx⟩; replace hF := hF.below hbx; replace hO := own_below hO hbx; replace HI := Lib.hid (HI.out.below hbx); clear hbx) | (go_at_call 58; go_must (refine (l3Has_any _ G _ _ HI.out).mono ?_); rintro e wx ⟨rfl, hbx⟩; replace hF := hF.below hbx; replace hO := own_below hO hbx; replace HI := Lib.hid (HI.out.below hbx); clear hbx))
            go_roundw
            case rel => exact ⟨k + 1, by omega, rfl, by go_num, hno', hO, HI, hF⟩
            case measure => simp [intOf]; omega
          · have d1 : decide (((k : Int) + 1) ∈ G) = false := by simp [hm]
            have HNM := Lib.hid hm
            have hb2 := hb1
            clear hm
            go_wp2_with (first | (go_at_call 44; go_must (refine (l12Of_r _ M n hn HP _ _ _ (HM.out.below hF.kp) hb1.out hb2.out).mono ?_); rintro e wx ⟨rfl, hbx⟩; replace hF := hF.below hbx; replace hO := own_below hO hbx; replace HI := Lib.hid (HI.out.below hbx); clear hbx) | (go_at_call 58; go_must (refine (l3Has_any _ G _ _ HI.out).mono ?_); rintro e wx ⟨rfl, hbx⟩; replace hF := hF.below hbx; replace hO := own_below hO hbx; replace HI := Lib.hid (HI.out.below hbx); clear hbx))
            clear d1 hb2
            obtain ⟨wo2, rfl⟩ : ∃ wo : World, wo = wr := ⟨_, rfl⟩
            go_loopw [6, 7] (fun b i wr => ∃ (q : Nat) (c : Bool), q ≤ n ∧ b = .bool c ∧ Hid (decide (Cust M G ((k : Int) + 1) q) = c) ∧ i = .int .i64 ((q : Int) + 1) ∧ wr.ownsRow w.heap.size 3 1 (.slice al m cs) m (G.map (Value.int .i64)) ∧ Hid (Ints wr (.slice al m cs) G) ∧ Fb w wr []) (fun _ i _ => n + 1 - (intOf i).toNat)
            case atStart => exact ⟨0, true, Nat.zero_le _, rfl, cust_zero _ _ _, rfl, hO, HI, hF⟩
            case round =>
              clear hF hO HI
              obtain ⟨q, c, hq, rfl, hcu, rfl, hO, HI, hF⟩ := hrel
              by_cases hlq : q < n
              · have hle2 : (q : Int) + 1 ≤ n := by omega
                have hb2 : Hid (Bts ((q : Int) + 1) 1 n) := ⟨by omega, hle2⟩
                have hstep := cust_step M G ((k : Int) + 1) q
                have hrel : relof M ((k : Int) + 1) ((q : Int) + 1) = mgi M ((k : Int) + 1) ((q : Int) + 1) := by
                  unfold relof; rw [if_pos ⟨HP.out, by rw [hn.out]; exact hb1.out, by rw [hn.out]; exact hb2.out⟩]
                rw [hrel] at hstep
                cases c
                · have hc : ¬ Cust M G ((k : Int) + 1) q := of_decide_eq_false hcu.out
                  have hd : Hid (decide (Cust M G ((k : Int) + 1) (q + 1)) = false) := decide_eq_false (fun g => hc (hstep.1 g).1)
                  clear hstep hrel hc
                  go_wp2_with (first | (go_at_call 44; go_must (refine (l12Of_r _ M n hn HP _ _ _ (HM.out.below hF.kp) hb1.out hb2.out).mono ?_); rintro e wx ⟨rfl, hbx⟩; replace hF := hF.below hbx; replace hO := own_below hO hbx; replace HI := Lib.hid (HI.out.below hbx); clear hbx) | (go_at_call 58; go_must (refine (l3Has_any _ G _ _ HI.out).mono ?_); rintro e wx ⟨rfl, hbx⟩; replace hF := hF.below hbx; replace hO := own_below hO hbx; replace HI := Lib.hid (HI.out.below hbx); clear hbx))
                  go_roundw
                  case rel => exact ⟨q + 1, false, by omega, rfl, hd, by go_num, hO, HI, hF⟩
                  case measure => simp [intOf]; omega
                · have hc : Cust M G ((k : Int) + 1) q := of_decide_eq_true hcu.out
                  by_cases hr : mgi M ((k : Int) + 1) ((q : Int) + 1) = 1
                  · have d2 : (mgi M ((k : Int) + 1) ((q : Int) + 1) != 1) = false := by simp [hr]
                    have hd : Hid (decide (Cust M G ((k : Int) + 1) (q + 1)) = decide (((q : Int) + 1) ∈ G)) := decide_eq_decide.2 (hstep.trans ⟨fun g => g.2 hr, fun g => ⟨hc, fun _ => g⟩⟩)
                    clear hstep hrel hc hr
                    go_wp2_with (first | (go_at_call 44; go_must (refine (l12Of_r _ M n hn HP _ _ _ (HM.out.below hF.kp) hb1.out hb2.out).mono ?_); rintro e wx ⟨rfl, hbx⟩; replace hF := hF.below hbx; replace hO := own_below hO hbx; replace HI := Lib.hid (HI.out.below hbx); clear hbx) | (go_at_call 58; go_must (refine (l3Has_any _ G _ _ HI.out).mono ?_); rintro e wx ⟨rfl, hbx⟩; replace hF := hF.below hbx; replace hO := own_below hO hbx; replace HI := Lib.hid (HI.out.below hbx); clear hbx))
                    go_roundw
                    case rel => exact ⟨q + 1, _, by omega, rfl, hd, by go_num, hO, HI, hF⟩
                    case measure => simp [intOf]; omega
                  · have d2 : (mgi M ((k : Int) + 1) ((q : Int) + 1) != 1) = true := by simp [hr]
                    have hd : Hid (decide (Cust M G ((k : Int) + 1) (q + 1)) = true) := decide_eq_true (hstep.2 ⟨hc, fun g => (hr g).elim⟩)
                    clear hstep hrel hc hr
                    go_wp2_with (first | (go_at_call 44; go_must (refine (l12Of_r _ M n hn HP _ _ _ (HM.out.below hF.kp) hb1.out hb2.out).mono ?_); rintro e wx ⟨rfl, hbx⟩; replace hF := hF.below hbx; replace hO := own_below hO hbx; replace HI := Lib.hid (HI.out.below hbx); clear hbx) | (go_at_call 58; go_must (refine (l3Has_any _ G _ _ HI.out).mono ?_); rintro e wx ⟨rfl, hbx⟩; replace hF := hF.below hbx; replace hO := own_below hO hbx; replace HI := Lib.hid (HI.out.below hbx); clear hbx))
                    go_roundw
                    case rel => exact ⟨q + 1, true, by omega, rfl, hd, by go_num, hO, HI, hF⟩
                    case measure => simp [intOf]; omega
              · obtain rfl : q = n := by omega
                have hs := hF.kp.size
                have hb2 := hb1
                cases c
                rotate_left
                · have hc : Cust M G ((k : Int) + 1) q := of_decide_eq_true hcu.out
                  have hg : Hid (grow M (j + 1) = G ++ [(k : Int) + 1]) := by
                    have := grow_some (M := M) (j := j) (k := k) (by rw [hG.out]; exact nxt_some (by rw [hn.out]; exact hlk) ⟨HNM.out, by rw [hn.out]; exact hc⟩ hno.out)
                    rw [hG.out] at this; exact this
                  have hl2 : Hid ((grow M (j + 1)).length = m + 1) := by
                    show _ = _; rw [hg.out]; simp; exact hlen.out
                  clear hc
                  go_wp2_with (at_builtin; refine wpList_append_own _ rfl _ _ 26 rfl w.heap.size 3 j0 (.int .i64 0) 1 8 Try.underlying26 hj hy0 hy1 hy2 rfl (by decide) _ _ _ rfl (hO.alloc _) ⟨_, 0, none⟩ 1 1 [.int .i64 ((k : Int) + 1)] rfl rfl (cells_new _ _ _) (by simp [Value.oneCell']) (le_maxLen (by omega)) (by omega) (by simp only [World.size_alloc]; omega) ?_; intro v' wa hO1 hg1 hz9; clear hz9; have hb5 := own_grown (hO.alloc _) hg1 (by simp only [World.size_alloc]; omega); replace hF := (hF.other _).belowB hb5 (Nat.le_refl _) (by simp); replace hO := hO1; clear hO1 hg1 hb5)
                  go_roundw
                  case rel => exact ⟨j + 1, m + 1, by omega, by go_num, hl2, by omega, by rw [hg.out]; simpa using hO, hF⟩
                  case measure => simp [intOf]; omega
                · have hc : ¬ Cust M G ((k : Int) + 1) q := of_decide_eq_false hcu.out
                  have hno' : Hid (None' M G (k + 1)) := none_step hno.out (fun g => hc (by have := g.2; rwa [hn.out] at this))
                  clear hc
                  go_wp2
                  go_roundw
                  case rel => exact ⟨k + 1, by omega, rfl, by go_num, hno', hO, HI, hF⟩
                  case measure => simp [intOf]; omega
        · have hg : Hid (grow M (j + 1) = G) := by
            have := grow_none (M := M) (j := j) (by rw [hG.out]; exact nxt_none (by rw [hn.out]; rw [show n = k by omega]; exact hno.out))
            rw [hG.out] at this; exact this
          go_wp2
          go_roundw
          case rel => exact ⟨j + 1, m, by omega, by go_num, by show (grow M (j + 1)).length = m; rw [hg.out]; exact hlen.out, by omega, by rw [hg.out]; exact hO, hF⟩
          case measure => simp [intOf]; omega
    · obtain rfl : j = n := by omega
      have hI : Ints wr (.slice al m cs) (ord M) := by
        show Ints wr _ (grow M M.length); rw [hn.out, hG.out]; exact HI.out
      go_wp2
      go_ret
      exact ⟨_, rfl, hI, hF.kp⟩

/-- The order, if there is one. -/
def ordF (M : List (List Int)) : List Int := if FreeP M then ord M else []
theorem sRelsFree_any (v : Value) (M : List (List Int)) (w : World) (hM : Mat w v M) :
    Calls Try.prog 31 #[v] w fun e w' => e = .returned (.bool (decide (FreeP M))) ∧ Below w.heap.size w w' := by
  obtain ⟨ao, n, cap, rfl, hn, hn63⟩ := hM.sl
  have HM := Lib.hid hM
  by_cases hp : RelsP M
  · have d1 : decide (RelsP M) = true := by simp [hp]
    have HP := Lib.hid hp
    clear hp hM
    go_enter Try.func31, Try.ntmps31
    go_wp2_with fail
    refine (sRelsOk_any _ M _ HM.out).mono ?_; rintro e w1 ⟨rfl, hb⟩
    go_wp2_with fail
    refine (l12Order_any _ M _ HP.out (HM.out.below hb)).mono ?_; rintro e w2 ⟨u, rfl, hu, hb2⟩
    obtain ⟨ao', m, cap', rfl, hm, hmc, hcc⟩ := hu.sl
    have hd : Hid (decide (FreeP M) = ((m : Int) == (n : Int))) := by
      show _ = _
      rw [Bool.eq_iff_iff, decide_eq_true_eq, beq_iff_eq]
      unfold FreeP
      rw [hm.out, hn.out]
      exact ⟨fun g => by rw [g.2], fun g => ⟨HP.out, by omega⟩⟩
    clear hu
    go_wp2
    go_ret
    exact ⟨by rw [hd.out]; rfl, hb.trans (hb2.mono hb.size)⟩
  · have d1 : decide (RelsP M) = false := by simp [hp]
    have hd : decide (FreeP M) = false := decide_eq_false (fun g => hp g.1)
    rw [hd]
    clear hp hM hd
    go_enter Try.func31, Try.ntmps31
    go_wp2_with fail
    refine (sRelsOk_any _ M _ HM.out).mono ?_; rintro e w1 ⟨rfl, hb⟩
    go_wp2
    go_ret
    exact ⟨rfl, hb⟩
theorem sRelsOrder_any (v : Value) (M : List (List Int)) (w : World) (hM : Mat w v M) :
    Calls Try.prog 34 #[v] w fun e w' => ∃ u, e = .returned (.tuple #[u, .bool (decide (FreeP M))]) ∧ Ints w' u (ordF M) ∧ Below w.heap.size w w' := by
  have HM := Lib.hid hM
  by_cases hf : FreeP M
  · have d1 : decide (FreeP M) = true := by simp [hf]
    have HP := Lib.hid hf
    have ho : Hid (ordF M = ord M) := by show ordF M = _; unfold ordF; rw [if_pos hf]
    clear hf hM
    go_enter Try.func34, Try.ntmps34
    go_wp2_with fail
    refine (sRelsFree_any _ M _ HM.out).mono ?_; rintro e w1 ⟨rfl, hb⟩
    go_wp2_with fail
    refine (l12Order_any _ M _ HP.out.1 (HM.out.below hb)).mono ?_; rintro e w2 ⟨u, rfl, hu, hb2⟩
    have HU := Lib.hid hu
    clear hu
    go_wp2
    go_ret2
    exact ⟨u, by rw [d1]; rfl, by rw [ho.out]; exact HU.out, hb.trans (hb2.mono hb.size)⟩
  · have d1 : decide (FreeP M) = false := by simp [hf]
    have ho : Hid (ordF M = []) := by show ordF M = _; unfold ordF; rw [if_neg hf]
    clear hf hM
    go_enter Try.func34, Try.ntmps34
    go_wp2_with fail
    refine (sRelsFree_any _ M _ HM.out).mono ?_; rintro e w1 ⟨rfl, hb⟩
    go_wp2
    go_ret2
    exact ⟨.slice (some ⟨w1.heap.size, 0, none⟩) 0 0, by rw [d1]; rfl, by rw [ho.out]; exact ints_nil _ _ _ (by omega), hb.alloc hb.size _⟩
theorem iRelsOrder_any (v : Value) (M : List (List Int)) (w : World) (hM : Mat w v M) :
    Calls Try.prog 35 #[v] w fun e w' => ∃ u, e = .returned (.tuple #[u, .bool (decide (FreeP M))]) ∧ Ints w' u (ordF M) ∧ Below w.heap.size w w' := by
  have HM := Lib.hid hM
  by_cases hp : RelsP M
  · have HP := Lib.hid hp
    have HC := Lib.hid (readRels_yes v M w hM hp)
    clear hp hM
    go_enter Try.func35, Try.ntmps35
    go_wp2_with fail
    refine HC.out.mono ?_; rintro e w1 ⟨b, rfl, hK, hb⟩
    have HK := Lib.hid hK
    clear hK
    go_wp2_with fail
    refine (order_any M _ b _ HP.out rfl (HK.out.alloc _)).mono ?_; rintro e w2 ⟨ho, hb2⟩
    have hB : Below w.heap.size w w2 := (hb.alloc hb.size _).trans (hb2.mono (by have := hb.size; simp; omega))
    rcases ho with ⟨u, rfl, hl, hu⟩ | ⟨rfl, hl⟩
    · have hf : FreeP M := ⟨HP.out, hl⟩
      have ho : Hid (ordF M = ord M) := by show ordF M = _; unfold ordF; rw [if_pos hf]
      have HF : Hid (decide (FreeP M) = true) := decide_eq_true hf
      have HU := Lib.hid hu
      clear hu hf hl
      go_wp2
      go_ret2
      exact ⟨u, by rw [HF.out]; rfl, by rw [ho.out]; exact HU.out, hB⟩
    · have hf : ¬ FreeP M := fun g => hl g.2
      have ho : Hid (ordF M = []) := by show ordF M = _; unfold ordF; rw [if_neg hf]
      have HF : Hid (decide (FreeP M) = false) := decide_eq_false hf
      clear hf hl
      go_wp2
      go_ret2
      exact ⟨.slice none 0 0, by rw [HF.out]; rfl, by rw [ho.out]; exact ints_nil _ _ _ (by omega), hB⟩
  · have HC := Lib.hid (readRels_no v M w hM hp)
    have ho : Hid (ordF M = []) := by show ordF M = _; unfold ordF; rw [if_neg (fun g => hp g.1)]
    have HF : Hid (decide (FreeP M) = false) := decide_eq_false (fun g => hp g.1)
    clear hp hM
    go_enter Try.func35, Try.ntmps35
    go_wp2_with fail
    refine HC.out.mono ?_; rintro e w1 ⟨rfl, hb⟩
    go_wp2
    go_ret2
    exact ⟨.slice none 0 0, by rw [HF.out]; rfl, by rw [ho.out]; exact ints_nil _ _ _ (by omega), hb.alloc hb.size _⟩
theorem iRelsFree_any (v : Value) (M : List (List Int)) (w : World) (hM : Mat w v M) :
    Calls Try.prog 30 #[v] w fun e w' => e = .returned (.bool (decide (FreeP M))) ∧ Below w.heap.size w w' := by
  go_enter Try.func30, Try.ntmps30
  go_wp2_with fail
  refine (iRelsOrder_any _ M _ hM).mono ?_; rintro e w1 ⟨u, rfl, hu, hb⟩
  clear hu hM
  go_wp2
  go_ret
  exact ⟨rfl, hb⟩
end Go.Proofs.Ytfckmgeakdbdfaa
