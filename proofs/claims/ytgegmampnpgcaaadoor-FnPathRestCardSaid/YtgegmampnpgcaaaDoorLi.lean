/- Two rows of numbers are the same. -/
import Derived.Test.YtgegmampnpgcaaaDoorOz
set_option linter.unusedSimpArgs false
set_option linter.unusedVariables false
namespace Go.Proofs.YtgegmampnpgcaaaDoor
open Go.RowKit

theorem Ints.sl {w : World} {v : Value} {L : List Int} (h : Ints w v L) : ∃ ao n cap, v = .slice ao n cap ∧ Hid (L.length = n) ∧ n ≤ cap ∧ cap ≤ 9223372036854775807 := by
  obtain ⟨ao, cap, e, h1, h2, _⟩ := h.ex
  exact ⟨ao, _, cap, e, rfl, h1, h2⟩
theorem ints_nil (w : World) (ao : Option Addr) (cap : Nat) (hc : cap ≤ 9223372036854775807) : Ints w (.slice ao 0 cap) [] := Rows.nil w ao cap hc _ _
theorem take_ne {L K : List Int} {k : Nat} {p q : Int} (h1 : L[k]? = some p) (h2 : K[k]? = some q) (h : p ≠ q) : decide (L = K) = false := by
  rw [decide_eq_false_iff_not]; rintro rfl; rw [h1] at h2; injection h2 with h2; exact h h2
theorem take_eq {L K : List Int} {k : Nat} {p q : Int} (h0 : L.take k = K.take k) (h1 : L[k]? = some p) (h2 : K[k]? = some q) (h : p = q) : L.take (k + 1) = K.take (k + 1) := by
  rw [take_succ' h1, take_succ' h2, h0, h]
set_option maxHeartbeats 1000000 in
theorem lyInts_any (v1 v2 : Value) (L K : List Int) (w : World) (h1 : Ints w v1 L) (h2 : Ints w v2 K) :
    Calls Tryd.prog 25 #[v1, v2] w fun e w' => e = .returned (.bool (decide (L = K))) ∧ Below w.heap.size w w' := by
  have hF := Fb.start w
  obtain ⟨ao, n, cap, rfl, hn, hnc, hcap⟩ := h1.sl
  obtain ⟨bo, m, cap2, rfl, hm, hmc, hcap2⟩ := h2.sl
  by_cases hnm : n = m
  · subst hnm
    have d1 : ((n : Int) != (n : Int)) = false := by simp
    have HL := Lib.hid h1
    have HK := Lib.hid h2
    clear h1 h2
    go_enter Tryd.func25, Tryd.ntmps25
    go_wp2
    go_loopw [5] (fun i wr => ∃ k : Nat, k ≤ n ∧ i = .int .i64 k ∧ Hid (L.take k = K.take k) ∧ Fb w wr []) (fun i _ => n - (intOf i).toNat)
    case atStart => exact ⟨0, Nat.zero_le _, rfl, by show _ = _; simp, hF⟩
    case round =>
      clear hF
      obtain ⟨k, hk, rfl, ht, hF⟩ := hrel
      by_cases hlt : k < n
      · obtain ⟨b1, o1, rfl⟩ := HL.out.some (by omega)
        obtain ⟨b2, o2, rfl⟩ := HK.out.some (by omega)
        obtain ⟨p, hp⟩ := get_of hn.out hlt
        obtain ⟨q, hq⟩ := get_of hm.out hlt
        have HP := Lib.hid hp
        have HQ := Lib.hid hq
        clear hp hq
        have f1 := fun z : Cl wr.heap.size wr => Cl.old hF z (HL.out.get HP.out)
        have f2 := fun z : Cl wr.heap.size wr => Cl.old hF z (HK.out.get HQ.out)
        by_cases hpq : p = q
        · have d2 : (p != q) = false := by simp [hpq]
          have ht2 := Lib.hid (take_eq ht.out HP.out HQ.out hpq)
          clear hpq
          go_wp2
          first | refine wp_region_new (by kernel_rfl) (by kernel_rfl) ?_ | refine wp_region_lex ?_
          repeat (any_goals (first | go_big_quiet_step ((fail)) | (refine wpQuiet_step (fun K hK => ?_); go_simp; split <;> (rename_i hg; refine hK _ ?_; clear hK K; simp only [hg, decide_true, decide_false]))))
          all_goals (refine wpQuiet_nil ?_; intro x)
          go_wp2
          go_roundw
          case rel => exact ⟨k + 1, by omega, by go_num, ht2, hF.cl x⟩
          case measure => simp [intOf]; omega
        · have d2 : (p != q) = true := by simp [hpq]
          have ht2 := Lib.hid (take_ne HP.out HQ.out hpq)
          clear hpq
          go_wp2
          first | refine wp_region_new (by kernel_rfl) (by kernel_rfl) ?_ | refine wp_region_lex ?_
          repeat (any_goals (first | go_big_quiet_step ((fail)) | (refine wpQuiet_step (fun K hK => ?_); go_simp; split <;> (rename_i hg; refine hK _ ?_; clear hK K; simp only [hg, decide_true, decide_false]))))
          all_goals (refine wpQuiet_nil ?_; intro x)
          go_wp2
          go_ret
          exact ⟨by rw [ht2.out]; rfl, (hF.cl x).kp⟩
      · have hd : Hid (decide (L = K) = true) := by
          have := ht.out
          rw [List.take_of_length_le (by rw [hn.out]; omega), List.take_of_length_le (by rw [hm.out]; omega)] at this
          exact decide_eq_true this
        go_wp2
        go_ret
        exact ⟨by rw [hd.out]; rfl, hF.kp⟩
  · have d1 : ((n : Int) != (m : Int)) = true := by simp; omega
    have hd : Hid (decide (L = K) = false) := decide_eq_false (fun e => hnm (by rw [← hn.out, ← hm.out, e]))
    clear h1 h2 hnm
    go_enter Tryd.func25, Tryd.ntmps25
    go_wp2
    go_ret
    exact ⟨by rw [hd.out]; rfl, hF.kp⟩
end Go.Proofs.YtgegmampnpgcaaaDoor
