/- Relations: the reference's functions. -/
import Derived.Test.YtfckmgeakdbdfaaMa
set_option linter.unusedSimpArgs false
set_option linter.unusedVariables false
namespace Go.Proofs.Ytfckmgeakdbdfaa
open Go.RowKit

theorem l12Back_any (r : Int) (h0 : 0 ≤ r) (h3 : r ≤ 3) (w : World) :
    Calls Try.prog 42 #[.int .i64 r] w fun e w' => e = .returned (.int .i64 (bk r)) ∧ Below w.heap.size w w' := by
  have : r = 0 ∨ r = 1 ∨ r = 2 ∨ r = 3 := by omega
  rcases this with rfl | rfl | rfl | rfl
  all_goals
    go_enter Try.func42, Try.ntmps42
    go_wp2
    go_ret
    exact ⟨by simp [bk], (Below.refl _ _).alloc (Nat.le_refl _) _⟩

set_option maxHeartbeats 1000000 in
theorem sRelsOk_any (v : Value) (M : List (List Int)) (w : World) (hM : Mat w v M) :
    Calls Try.prog 15 #[v] w fun e w' => e = .returned (.bool (decide (RelsP M))) ∧ Below w.heap.size w w' := by
  obtain ⟨n, cap, hn, hnc, hcap, ⟨hn0, ao, rfl⟩ | ⟨hn0, b0, off, rfl⟩⟩ := hM.cases
  · obtain rfl : n = 0 := by omega
    have hd : decide (RelsP M) = false := by
      rw [relsP_all hn.out (fun i hi => by omega)]; decide
    rw [hd]
    have hb : decide (Bts 0 1 5) = false := by decide
    go_enter Try.func15, Try.ntmps15
    go_wp2
    go_loopw [3] (fun i wr => i = .int .i64 0 ∧ wr = w) (fun i _ => 0)
    case atStart => exact ⟨rfl, rfl⟩
    case round =>
      obtain ⟨rfl, rfl⟩ := hrel
      go_wp2_with (go_at_call 41; refine (l6In_any _ _ _ _).mono ?_; rintro e w1 ⟨rfl, hb1⟩)
      go_ret
      exact ⟨rfl, hb1⟩
  · have HM := Lib.hid hM; clear hM
    go_enter Try.func15, Try.ntmps15
    go_wp2
    go_loopw [3] (fun i wr => ∃ k : Nat, k ≤ n ∧ i = .int .i64 k ∧ Hid (∀ j, j < k → RowOk M j) ∧ Below w.heap.size w wr) (fun i _ => n - (intOf i).toNat)
    case atStart => exact ⟨0, Nat.zero_le _, rfl, fun j h => by omega, Below.refl _ _⟩
    case round =>
      obtain ⟨i, hi, rfl, hrows, hB⟩ := hrel
      have hMr := HM.out.below hB
      by_cases hlt : i < n
      · obtain ⟨ai, mi, ci, hci, hmi, hri, -, hcc⟩ := hMr.at (k := i) (by rw [hn.out]; exact hlt)
        by_cases hm : mi = n
        · subst hm
          obtain ⟨bi, oi, rfl⟩ := hri.some hn0
          have HR := Lib.hid hri
          have HMr := Lib.hid hMr
          clear hri hMr
          go_wp2
          obtain ⟨wo, rfl⟩ : ∃ wo : World, wo = wr := ⟨_, rfl⟩
          go_loopw [4] (fun kk wr => ∃ k : Nat, k ≤ mi ∧ kk = .int .i64 k ∧ Hid (∀ j, j < k → OkAt M i j) ∧ Below wo.heap.size wo wr) (fun kk _ => mi - (intOf kk).toNat)
          case atStart => exact ⟨0, Nat.zero_le _, rfl, fun j h => by omega, Below.refl _ _⟩
          case round =>
            obtain ⟨k, hk, rfl, hat, hB2⟩ := hrel
            have hMr := HMr.out.below hB2
            have hci' := fun x : Cl wr.heap.size wr => x.cell ((hB2.cell (World.block_lt_of_cell? wo _ hci)).trans hci)
            by_cases hlk : k < mi
            · obtain ⟨ak, mk, ck, hck, hmk, hrk, -, hkc⟩ := hMr.at (k := k) (by rw [hn.out]; exact hlk)
              have hck' := fun x : Cl wr.heap.size wr => x.cell hck
              have hBx := Lib.hid (fun x : Cl wr.heap.size wr => hB.trans ((hB2.mono hB.size).trans (x.below.mono (Nat.le_trans hB.size hB2.size))))
              have hBo := Lib.hid (fun x : Cl wr.heap.size wr => hB2.trans (x.below.mono hB2.size))
              clear hMr hck
              by_cases hmk' : mk = mi
              · subst hmk'
                obtain ⟨bk', ok', rfl⟩ := hrk.some hn0
                have f4 := fun x : Cl wr.heap.size wr => x.cell (hrk.getD (k := i) (by rw [hmk.out]; exact hlt))
                have f3 := fun x : Cl wr.heap.size wr => x.cell (Ints.getD (HR.out.below hB2) (k := k) (by rw [hmi.out]; exact hlk))
                have e3 : mget M i k = (M.getD i []).getD k 0 := rfl
                have e4 : mget M k i = (M.getD k []).getD i 0 := rfl
                rw [← e3] at f3
                rw [← e4] at f4
                clear hrk e3 e4
                have hok : Hid (OkAt M i k ↔ (Bts (mget M i k) 0 3 ∧ mget M k i = bk (mget M i k) ∧ (i = k → mget M i k = 0))) := by
                  show _ ↔ _; unfold OkAt; rw [hmk.out, hn.out]; simp
                have hno := Lib.hid (fun h => relsP_no (M := M) (i := i) (k := k) hn.out hlt hlk h)
                have hstep : Hid (OkAt M i k → ∀ j, j < k + 1 → OkAt M i j) := fun h j hj => by
                  by_cases e : j = k
                  · rw [e]; exact h
                  · exact hat.out j (by omega)
                generalize mget M i k = r at *
                generalize mget M k i = s at *
                by_cases hr : Bts r 0 3
                · have hd : decide (Bts r 0 3) = true := by simp [hr]
                  have hr1 := hr.1
                  have hr2 := hr.2
                  by_cases hs : s = bk r
                  · have hs' : (s != bk r) = false := by simp [hs]
                    have HS := Lib.hid hs; clear hs
                    by_cases hik : i = k
                    · have hik' : ((i : Int) == (k : Int)) = true := by simp [hik]
                      have HIK := Lib.hid hik; clear hik
                      by_cases hz : r = 0
                      · have hz' : (r != 0) = false := by simp [hz]
                        have HZ := Lib.hid hz; clear hz
                        go_wp2
                        first | refine wp_region_new (by kernel_rfl) (by kernel_rfl) ?_ | refine wp_region_lex ?_
                        repeat (any_goals (first | go_big_quiet_step ((first | (go_at_call 41; exact Calls.cl (l6In_any _ _ _ _)) | (go_at_call 42; exact Calls.cl (l12Back_any _ hr1 hr2 _)))) | (refine wpQuiet_step (fun K hK => ?_); go_simp; split <;> (rename_i hg; refine hK _ ?_; clear hK K; simp only [hg, decide_true, decide_false]))))
                        all_goals (refine wpQuiet_nil ?_; intro x)
                        go_wp2
                        go_roundw
                        case rel => exact ⟨k + 1, by omega, by go_num, hstep.out (hok.out.2 ⟨hr, HS.out, fun _ => HZ.out⟩), hBo.out x⟩
                        case measure => simp [intOf]; omega
                      · have hz' : (r != 0) = true := by simp [hz]
                        have HF := Lib.hid (hno.out (fun h => hz ((hok.out.1 h).2.2 HIK.out)))
                        clear hz
                        go_wp2
                        first | refine wp_region_new (by kernel_rfl) (by kernel_rfl) ?_ | refine wp_region_lex ?_
                        repeat (any_goals (first | go_big_quiet_step ((first | (go_at_call 41; exact Calls.cl (l6In_any _ _ _ _)) | (go_at_call 42; exact Calls.cl (l12Back_any _ hr1 hr2 _)))) | (refine wpQuiet_step (fun K hK => ?_); go_simp; split <;> (rename_i hg; refine hK _ ?_; clear hK K; simp only [hg, decide_true, decide_false]))))
                        all_goals (refine wpQuiet_nil ?_; intro x)
                        go_wp2
                        go_ret
                        exact ⟨by rw [HF.out]; rfl, hBx.out x⟩
                    · have hik' : ((i : Int) == (k : Int)) = false := by simp; omega
                      have HIK := Lib.hid hik; clear hik
                      go_wp2
                      first | refine wp_region_new (by kernel_rfl) (by kernel_rfl) ?_ | refine wp_region_lex ?_
                      repeat (any_goals (first | go_big_quiet_step ((first | (go_at_call 41; exact Calls.cl (l6In_any _ _ _ _)) | (go_at_call 42; exact Calls.cl (l12Back_any _ hr1 hr2 _)))) | (refine wpQuiet_step (fun K hK => ?_); go_simp; split <;> (rename_i hg; refine hK _ ?_; clear hK K; simp only [hg, decide_true, decide_false]))))
                      all_goals (refine wpQuiet_nil ?_; intro x)
                      go_wp2
                      go_roundw
                      case rel => exact ⟨k + 1, by omega, by go_num, hstep.out (hok.out.2 ⟨hr, HS.out, fun h => (HIK.out h).elim⟩), hBo.out x⟩
                      case measure => simp [intOf]; omega
                  · have hs' : (s != bk r) = true := by simp [hs]
                    have HF := Lib.hid (hno.out (fun h => hs ((hok.out.1 h).2.1)))
                    clear hs
                    go_wp2
                    first | refine wp_region_new (by kernel_rfl) (by kernel_rfl) ?_ | refine wp_region_lex ?_
                    repeat (any_goals (first | go_big_quiet_step ((first | (go_at_call 41; exact Calls.cl (l6In_any _ _ _ _)) | (go_at_call 42; exact Calls.cl (l12Back_any _ hr1 hr2 _)))) | (refine wpQuiet_step (fun K hK => ?_); go_simp; split <;> (rename_i hg; refine hK _ ?_; clear hK K; simp only [hg, decide_true, decide_false]))))
                    all_goals (refine wpQuiet_nil ?_; intro x)
                    go_wp2
                    go_ret
                    exact ⟨by rw [HF.out]; rfl, hBx.out x⟩
                · have hd : decide (Bts r 0 3) = false := by simp [hr]
                  have HF := Lib.hid (hno.out (fun h => hr ((hok.out.1 h).1)))
                  clear hr
                  go_wp2
                  first | refine wp_region_new (by kernel_rfl) (by kernel_rfl) ?_ | refine wp_region_lex ?_
                  repeat (any_goals (first | go_big_quiet_step ((first | (go_at_call 41; exact Calls.cl (l6In_any _ _ _ _)) | (go_at_call 42; exact Calls.cl (l12Back_any _ hr1 hr2 _)))) | (refine wpQuiet_step (fun K hK => ?_); go_simp; split <;> (rename_i hg; refine hK _ ?_; clear hK K; simp only [hg, decide_true, decide_false]))))
                  all_goals (refine wpQuiet_nil ?_; intro x)
                  go_wp2
                  go_ret
                  exact ⟨by rw [HF.out]; rfl, hBx.out x⟩
              · have hmk2 : ((mk : Int) != (mi : Int)) = true := by simp; omega
                have HF := Lib.hid (relsP_row (M := M) (i := k) hn.out hlk (by rw [hmk.out]; exact hmk'))
                clear hmk'
                go_wp2
                first | refine wp_region_new (by kernel_rfl) (by kernel_rfl) ?_ | refine wp_region_lex ?_
                repeat (any_goals (first | go_big_quiet_step ((fail)) | (refine wpQuiet_step (fun K hK => ?_); go_simp; split <;> (rename_i hg; refine hK _ ?_; clear hK K; simp only [hg, decide_true, decide_false]))))
                all_goals (refine wpQuiet_nil ?_; intro x)
                go_wp2
                go_ret
                exact ⟨by rw [HF.out]; rfl, hBx.out x⟩
            · have hrow : Hid (∀ j, j < i + 1 → RowOk M j) := fun j hj => by
                by_cases e : j = i
                · rw [e]; exact ⟨by rw [hmi.out, hn.out], fun k' hk' => hat.out k' (by rw [hn.out] at hk'; omega)⟩
                · exact hrows.out j (by omega)
              have hBx := hB.trans (hB2.mono hB.size)
              clear hci' hMr
              go_wp2
              go_roundw
              case rel => exact ⟨i + 1, by omega, by go_num, hrow, hBx⟩
              case measure => simp [intOf]; omega
        · have hm2 : ((mi : Int) != (n : Int)) = true := by simp; omega
          have HF := Lib.hid (relsP_row (M := M) (i := i) hn.out hlt (by rw [hmi.out]; exact hm))
          clear hm hMr hri
          go_wp2
          go_ret
          exact ⟨by rw [HF.out]; rfl, hB⟩
      · obtain rfl : i = n := by omega
        have hall := Lib.hid (relsP_all hn.out hrows.out)
        clear hMr
        go_wp2_with (go_at_call 41; refine (l6In_any _ _ _ _).mono ?_; rintro e w1 ⟨rfl, hb1⟩)
        go_ret
        exact ⟨by rw [hall.out]; rfl, hB.trans (hb1.mono hB.size)⟩
end Go.Proofs.Ytfckmgeakdbdfaa
