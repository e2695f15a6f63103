/- Law on the order of houses: FnRelsOrder. -/
import Derived.Test.YtfckmgeakdbdfaaOe
import Derived.Test.YtfckmgeakdbdfaaMt
set_option linter.unusedSimpArgs false
set_option linter.unusedVariables false
namespace Go.Proofs.Ytfckmgeakdbdfaa
open Go.RowKit

theorem nod_inj {α : Type} {L : List α} (h : L.Nodup) {i k : Nat} {x : α} (hi : L[i]? = some x) (hk : L[k]? = some x) : i = k := by
  obtain ⟨hi1, ei⟩ := List.getElem?_eq_some_iff.1 hi
  obtain ⟨hk1, ek⟩ := List.getElem?_eq_some_iff.1 hk
  have g := List.pairwise_iff_getElem.1 h
  rcases Nat.lt_trichotomy i k with h1 | h1 | h1
  · exact (g i k hi1 hk1 h1 (by rw [ei, ek])).elim
  · exact h1
  · exact (g k i hk1 hi1 h1 (by rw [ei, ek])).elim
theorem good_pair {M : List (List Int)} {L : List Int} (h : Good M L) {i k : Nat} {p q : Int} (hp : L[i]? = some p) (hq : L[k]? = some q) : (relof M p q = 1 → k < i) ∧ (p = q → i = k) := by
  refine ⟨fun hr => ?_, fun e => ?_⟩
  · obtain ⟨j, hj, e⟩ := h.first i p q hp hr
    have := nod_inj h.nodup e hq
    omega
  · exact nod_inj h.nodup hp (by rw [e]; exact hq)
set_option maxHeartbeats 2000000 in
theorem FnRelsOrder_walk (a0 : Option Addr) (n0 c0 : Nat) (w : World) (h0 : Given w (.slice a0 n0 c0)) :
    Calls Try.prog 12 #[.slice a0 n0 c0] w fun e w' => e = .returned (.bool true) ∧ Below w.heap.size w w' := by
  by_cases hn0 : 1048576 < n0
  · have e0 : decide (1048576 < (n0 : Int)) = true := by simp; omega
    go_enter Try.func12, Try.ntmps12
    go_wp2
    go_ret
    exact ⟨rfl, Below.refl _ _⟩
  have e0 : decide (1048576 < (n0 : Int)) = false := by simp; omega
  have hF := Fb.start w
  go_enter Try.func12, Try.ntmps12
  go_wp2_with fail
  refine (drawRelsOrder_any _ _ h0).mono ?_; rintro e w1 ⟨v, M, rfl, hM, hSq, hb1⟩
  replace hF := hF.below hb1
  clear hb1 h0 hSq
  obtain ⟨ao, n, cap, rfl, hn, hn63⟩ := hM.sl
  go_wp2_with fail
  refine (sRelsOrder_any _ M _ hM).mono ?_; rintro e w2 ⟨u, rfl, hU, hb2⟩
  replace hF := hF.below hb2
  replace hM := hM.below hb2
  clear hb2
  go_wp2_with fail
  refine (iRelsOrder_any _ M _ hM).mono ?_; rintro e w3 ⟨t, rfl, hT, hb3⟩
  replace hF := hF.below hb3
  replace hM := hM.below hb3
  replace hU := hU.below hb3
  clear hb3
  obtain ⟨a1, m, c1, rfl, hm, hmc, hc1⟩ := Ints.sl hT
  obtain ⟨a2, m2, c2, rfl, hm2, hmc2, hc2⟩ := Ints.sl hU
  have de : decide (ordF M = ordF M) = true := by simp
  by_cases hf : FreeP M
  · have d1 : decide (FreeP M) = true := by simp [hf]
    have ho : ordF M = ord M := by unfold ordF; rw [if_pos hf]
    have hg := Lib.hid (good_grow M M.length)
    have hmn : m = n := by rw [← hm.out, ← hn.out, ho]; exact hf.2
    subst hmn
    have hn5 : m ≤ 5 := by have := hf.1.2.2; have := hn.out; omega
    have hmo : Hid ((ord M).length = m) := by show _ = _; rw [← ho]; exact hm.out
    have HO := Lib.hid ho
    clear hf ho
    go_wp2_with (first | (go_at_call 36; go_must (refine (lyInts_any _ _ _ _ _ hT hU).mono ?_); rintro e wx ⟨rfl, hbx⟩; replace hF := hF.below hbx; replace hM := hM.below hbx; replace hT := hT.below hbx; replace hU := hU.below hbx; clear hbx) | (go_at_call 30; go_must (refine (iRelsFree_any _ M _ hM).mono ?_); rintro e wx ⟨rfl, hbx⟩; replace hF := hF.below hbx; replace hM := hM.below hbx; replace hT := hT.below hbx; replace hU := hU.below hbx; clear hbx))
    have HM := Lib.hid hM
    have HT := Lib.hid hT
    rw [HO.out] at HT
    clear hM hT hU
    obtain ⟨wa, rfl⟩ : ∃ wa : World, wa = wx := ⟨_, rfl⟩
    go_loopw [8] (fun i wr => ∃ k : Nat, k ≤ m ∧ i = .int .i64 k ∧ Fb w wr [] ∧ Below wa.heap.size wa wr) (fun i _ => m - (intOf i).toNat)
    case atStart => exact ⟨0, Nat.zero_le _, rfl, hF, Below.refl _ _⟩
    case round =>
      clear hF
      obtain ⟨i, hi, rfl, hF, hB⟩ := hrel
      by_cases hlt : i < m
      · go_wp2
        go_loopw [9] (fun c wr => ∃ k : Nat, k ≤ m ∧ c = .int .i64 k ∧ Fb w wr [] ∧ Below wa.heap.size wa wr) (fun c _ => m - (intOf c).toNat)
        case atStart => exact ⟨0, Nat.zero_le _, rfl, hF, hB⟩
        case round =>
          clear hF hB
          obtain ⟨k, hk, rfl, hF, hB⟩ := hrel
          by_cases hlk : k < m
          · obtain ⟨b1, o1, rfl⟩ := Ints.some HT.out (by omega)
            obtain ⟨p, hp⟩ := get_of hmo.out hlt
            obtain ⟨q, hq⟩ := get_of hmo.out hlk
            have hpair := Lib.hid (good_pair hg.out hp hq)
            have bp := hg.out.bd p (List.mem_of_getElem? hp)
            have bq := hg.out.bd q (List.mem_of_getElem? hq)
            rw [hn.out] at bp bq
            obtain ⟨p1, p2⟩ := bp
            obtain ⟨q1, q2⟩ := bq
            have HP := Lib.hid hp
            have HQ := Lib.hid hq
            clear hp hq
            have HTr := Lib.hid (HT.out.below hB)
            have f1 := fun z : Cl wr.heap.size wr => z.cell (Ints.get HTr.out HP.out)
            have f2 := fun z : Cl wr.heap.size wr => z.cell (Ints.get HTr.out HQ.out)
            have HMx : Hid (∀ z : Cl wr.heap.size wr, Mat z.W (.slice ao m cap) M) := fun z => (HM.out.below hB).below z.below
            have HBx := Lib.hid (fun z : Cl wr.heap.size wr => hB.trans (z.below.mono hB.size))
            have q3 : -1000000 ≤ q := by omega
            have q4 : q ≤ 1000000 := by omega
            have p3 : -1000000 ≤ p := by omega
            have p4 : p ≤ 1000000 := by omega
            clear p2 q2
            by_cases hr : relof M p q = 1
            · have r1 : (relof M p q == 1) = true := by simp [hr]
              have hki : k < i := hpair.out.1 hr
              have r2 : decide ((i : Int) ≤ (k : Int)) = false := by simp; omega
              have r2' : decide (i ≤ k) = false := by simp; omega
              have r3' : decide (k < i) = true := by simp; omega
              have r3 : decide ((k : Int) < (i : Int)) = true := by simp; omega
              have r4 : (q == p) = false := by simp; intro e; have := hpair.out.2 e.symm; omega
              clear hr
              go_wp2
              first | refine wp_region_new (by kernel_rfl) (by kernel_rfl) ?_ | refine wp_region_lex ?_
              repeat (any_goals (first | go_big_quiet_step (((go_at_call 17; exact Calls.cl (iRelOf_any _ M _ _ _ (HMx.out _) p3 p4 q3 q4)))) | (refine wpQuiet_step (fun K hK => ?_); go_simp; split <;> (rename_i hg; refine hK _ ?_; clear hK K; simp only [hg, decide_true, decide_false]))))
              all_goals (refine wpQuiet_nil ?_; intro x)
              go_wp2
              go_roundw
              case rel => exact ⟨k + 1, by omega, by go_num, hF.cl x, HBx.out x⟩
              case measure => simp [intOf]; omega
            · have r1 : (relof M p q == 1) = false := by simp [hr]
              clear hr
              by_cases hki : k < i
              · have r3 : decide ((k : Int) < (i : Int)) = true := by simp; omega
                have r4 : (q == p) = false := by simp; intro e; have := hpair.out.2 e.symm; omega
                go_wp2
                first | refine wp_region_new (by kernel_rfl) (by kernel_rfl) ?_ | refine wp_region_lex ?_
                repeat (any_goals (first | go_big_quiet_step (((go_at_call 17; exact Calls.cl (iRelOf_any _ M _ _ _ (HMx.out _) p3 p4 q3 q4)))) | (refine wpQuiet_step (fun K hK => ?_); go_simp; split <;> (rename_i hg; refine hK _ ?_; clear hK K; simp only [hg, decide_true, decide_false]))))
                all_goals (refine wpQuiet_nil ?_; intro x)
                go_wp2
                go_roundw
                case rel => exact ⟨k + 1, by omega, by go_num, hF.cl x, HBx.out x⟩
                case measure => simp [intOf]; omega
              · have r3 : decide ((k : Int) < (i : Int)) = false := by simp; omega
                go_wp2
                first | refine wp_region_new (by kernel_rfl) (by kernel_rfl) ?_ | refine wp_region_lex ?_
                repeat (any_goals (first | go_big_quiet_step (((go_at_call 17; exact Calls.cl (iRelOf_any _ M _ _ _ (HMx.out _) p3 p4 q3 q4)))) | (refine wpQuiet_step (fun K hK => ?_); go_simp; split <;> (rename_i hg; refine hK _ ?_; clear hK K; simp only [hg, decide_true, decide_false]))))
                all_goals (refine wpQuiet_nil ?_; intro x)
                go_wp2
                go_roundw
                case rel => exact ⟨k + 1, by omega, by go_num, hF.cl x, HBx.out x⟩
                case measure => simp [intOf]; omega
          · go_wp2
            go_roundw
            case rel => exact ⟨i + 1, by omega, by go_num, hF, hB⟩
            case measure => simp [intOf]; omega
      · have dm : ((m : Int) == (m : Int)) = true := by simp
        have hM := HM.out.below hB
        go_wp2_with (go_at_call 30; go_must (refine (iRelsFree_any _ M _ hM).mono ?_); rintro e wx ⟨rfl, hbx⟩; replace hF := hF.below hbx; clear hbx hM)
        go_ret
        exact ⟨rfl, hF.kp⟩
  · have d1 : decide (FreeP M) = false := by simp [hf]
    clear hf
    go_wp2_with (first | (go_at_call 36; go_must (refine (lyInts_any _ _ _ _ _ hT hU).mono ?_); rintro e wx ⟨rfl, hbx⟩; replace hF := hF.below hbx; replace hM := hM.below hbx; replace hT := hT.below hbx; replace hU := hU.below hbx; clear hbx) | (go_at_call 30; go_must (refine (iRelsFree_any _ M _ hM).mono ?_); rintro e wx ⟨rfl, hbx⟩; replace hF := hF.below hbx; replace hM := hM.below hbx; replace hT := hT.below hbx; replace hU := hU.below hbx; clear hbx))
    go_ret
    exact ⟨rfl, hF.kp⟩
end Go.Proofs.Ytfckmgeakdbdfaa
