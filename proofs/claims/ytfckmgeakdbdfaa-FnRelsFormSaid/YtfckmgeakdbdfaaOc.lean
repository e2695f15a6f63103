/- The order of the program. -/
import Derived.Test.YtfckmgeakdbdfaaOa
import Derived.Test.YtfckmgeakdbdfaaOb
import Derived.Test.YtfckmgeakdbdfaaMh
set_option linter.unusedSimpArgs false
set_option linter.unusedVariables false
namespace Go.Proofs.Ytfckmgeakdbdfaa
open Go.RowKit Go.Maps Go.WideMaps

theorem rdy_no {M : List (List Int)} {L : List Int} {h : Int} {k : Nat} (hk : k < M.length) (h1 : relof M h ((k : Int) + 1) = 1) (h2 : ((k : Int) + 1) ∉ L) : decide (Rdy M L h) = false := by
  rw [decide_eq_false_iff_not]; exact fun g => h2 (g.2 k hk h1)
set_option maxHeartbeats 1000000 in
theorem ready_any (M : List (List Int)) (n b bo br : Nat) (u : Value) (L : List Int) (h : Int) (w : World) (hp : RelsP M) (hn : M.length = n) (hK : Kn w M b) (hL : Ints w u L) (h0 : w.cell? ⟨bo, 0, none⟩ = some u) (h1 : w.cell? ⟨br, 0, none⟩ = some (.int .i64 n)) (h2 : w.cell? ⟨br, 1, none⟩ = some (.map (some b))) (hh : -1000000 ≤ h) (hh' : h ≤ 1000000) (hu : u.oneCell' = true) :
    Calls Try.prog 59 #[.int .i64 h, .pointer (some ⟨bo, 0, none⟩), .pointer (some ⟨br, 0, none⟩)] w fun e w' => e = .returned (.bool (decide (Rdy M L h))) ∧ Below w.heap.size w w' := by
  have hF := Fb.start w
  have HN := Lib.hid hn
  have hn5 : n ≤ 5 := by have := hp.2.2; omega
  have HP := Lib.hid hp
  have HK := Lib.hid hK
  have HL := Lib.hid hL
  clear hp hn hK hL
  by_cases hm : h ∈ L
  · have d1 : decide (h ∈ L) = true := by simp [hm]
    have hr : decide (Rdy M L h) = false := by rw [decide_eq_false_iff_not]; exact fun g => g.1 hm
    rw [hr]; clear hm hr
    go_enter Try.func59, Try.ntmps59
    go_wp2_with fail
    refine (Contains_any _ L h _ HL.out).mono ?_; rintro e w1 ⟨rfl, hb⟩
    go_wp2
    go_ret
    exact ⟨rfl, hb⟩
  · have d1 : decide (h ∈ L) = false := by simp [hm]
    have HM := Lib.hid hm
    clear hm
    go_enter Try.func59, Try.ntmps59
    go_wp2_with fail
    refine (Contains_any _ L h _ HL.out).mono ?_; rintro e w1 ⟨rfl, hb⟩
    replace hF := hF.below hb
    clear hb
    go_wp2
    go_loopw [5] (fun i wr => ∃ k : Nat, k ≤ n ∧ i = .int .i64 ((k : Int) + 1) ∧ Hid (Cust M L h k) ∧ Fb w wr []) (fun i _ => n + 1 - (intOf i).toNat)
    case atStart => exact ⟨0, Nat.zero_le _, rfl, (by intro c hc; omega), hF⟩
    case round =>
      clear hF
      obtain ⟨k, hk, rfl, hc, hF⟩ := hrel
      have c0 := hF.old h0
      have c1 := hF.old h1
      have c2 := hF.old h2
      by_cases hlt : k < n
      · have hle : (k : Int) + 1 ≤ n := by omega
        have HKr := Lib.hid (HK.out.below hF.kp)
        by_cases hr : relof M h ((k : Int) + 1) = 1
        · have d2 : (relof M h ((k : Int) + 1) == 1) = true := by simp [hr]
          by_cases hcm : ((k : Int) + 1) ∈ L
          · have d3 : decide (((k : Int) + 1) ∈ L) = true := by simp [hcm]
            have hc' : Hid (Cust M L h (k + 1)) := (cust_step _ _ _ _).2 ⟨hc.out, fun _ => hcm⟩
            clear hr hcm
            go_wp2_with fail
            refine (of_any M _ b _ _ _ HP.out HKr.out hh hh' (by omega) (by omega)).mono ?_; rintro e w2 ⟨rfl, hb2⟩
            replace hF := hF.below hb2
            have c0 := hF.old h0
            have HLr := Lib.hid (HL.out.below hF.kp)
            clear hb2
            go_wp2_with fail
            refine (Contains_any _ L _ _ HLr.out).mono ?_; rintro e w3 ⟨rfl, hb3⟩
            replace hF := hF.below hb3
            clear hb3 c0
            go_wp2
            go_roundw
            case rel => exact ⟨k + 1, by omega, by go_num, hc', hF⟩
            case measure => simp [intOf]; omega
          · have d3 : decide (((k : Int) + 1) ∈ L) = false := by simp [hcm]
            have hr' := Lib.hid (rdy_no (M := M) (L := L) (h := h) (k := k) (by have := HN.out; omega) hr hcm)
            clear hr hcm
            go_wp2_with fail
            refine (of_any M _ b _ _ _ HP.out HKr.out hh hh' (by omega) (by omega)).mono ?_; rintro e w2 ⟨rfl, hb2⟩
            replace hF := hF.below hb2
            have c0 := hF.old h0
            have HLr := Lib.hid (HL.out.below hF.kp)
            clear hb2
            go_wp2_with fail
            refine (Contains_any _ L _ _ HLr.out).mono ?_; rintro e w3 ⟨rfl, hb3⟩
            replace hF := hF.below hb3
            clear hb3 c0
            go_wp2
            go_ret
            exact ⟨by rw [hr'.out]; rfl, hF.kp⟩
        · have d2 : (relof M h ((k : Int) + 1) == 1) = false := by simp [hr]
          have hc' : Hid (Cust M L h (k + 1)) := (cust_step _ _ _ _).2 ⟨hc.out, fun g => (hr g).elim⟩
          clear hr
          go_wp2_with fail
          refine (of_any M _ b _ _ _ HP.out HKr.out hh hh' (by omega) (by omega)).mono ?_; rintro e w2 ⟨rfl, hb2⟩
          replace hF := hF.below hb2
          clear hb2
          go_wp2
          go_roundw
          case rel => exact ⟨k + 1, by omega, by go_num, hc', hF⟩
          case measure => simp [intOf]; omega
      · have hr' : Hid (decide (Rdy M L h) = true) := by
          show decide _ = true
          rw [decide_eq_true_eq]
          exact ⟨HM.out, by rw [HN.out]; rw [show n = k by omega]; exact hc.out⟩
        go_wp2
        go_ret
        exact ⟨by rw [hr'.out]; rfl, hF.kp⟩
end Go.Proofs.Ytfckmgeakdbdfaa
