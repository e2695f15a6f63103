/- FnPathHas: the walk. -/
import Derived.Test.YtcdmkmkjppbkgaaDoorEg
set_option linter.unusedSimpArgs false
set_option linter.unusedVariables false
namespace Go.Proofs.YtcdmkmkjppbkgaaDoor
open Go.RowKit

/-- How many of 1 .. k are in L. -/
def cnt (L : List Int) : Nat → Nat
  | 0 => 0
  | k + 1 => cnt L k + if ((k : Int) + 1) ∈ L then 1 else 0
theorem cnt_le (L : List Int) : ∀ k, cnt L k ≤ k
  | 0 => Nat.le_refl _
  | k + 1 => by have := cnt_le L k; simp only [cnt]; split <;> omega
theorem cnt_len : ∀ {L : List Int}, POk L → cnt L 5 = L.length
  | [], _ => by simp [cnt]
  | x :: L, h => by
    have hL : POk L := pok_sub h (List.sublist_cons_self x L)
    have hx : x ∉ L := (List.nodup_cons.1 h.2).1
    have hb := h.1 x (List.mem_cons_self ..)
    have ih := cnt_len hL
    simp only [cnt, List.length_cons, List.mem_cons] at ih ⊢
    rcases five hb with rfl | rfl | rfl | rfl | rfl <;> simp [hx] at ih ⊢ <;> omega
set_option maxHeartbeats 2000000 in
theorem FnPathHas_walk (a0 : Option Addr) (n0 c0 : Nat) (a : Addr) (w : World) (h0 : Given w (.slice a0 n0 c0)) (hE : EPath w a) :
    Calls Tryd.prog 4 #[.slice a0 n0 c0] w fun e w' => e = .returned (.bool true) ∧ Below w.heap.size w w' := by
  by_cases hn0 : 1048576 < n0
  · have e0 : decide (1048576 < (n0 : Int)) = true := by simp; omega
    go_enter Tryd.func4, Tryd.ntmps4
    go_wp2
    go_ret
    exact ⟨rfl, Below.refl _ _⟩
  have e0 : decide (1048576 < (n0 : Int)) = false := by simp; omega
  have hF := Fb.start w
  go_enter Tryd.func4, Tryd.ntmps4
  go_wp2_with fail
  refine (drawPathHas_any _ _ h0).mono ?_; rintro e w1 ⟨v, L, z, rfl, hV, hL, -, hz0, hz6, hb1⟩
  replace hF := hF.below hb1
  replace hE := hE.below hb1
  clear hb1 h0
  obtain ⟨n, hn⟩ : ∃ n, Hid (L.length = n) := ⟨_, rfl⟩
  obtain ⟨ao, cap, rfl, -⟩ := hV.ex
  rw [hn.out] at hV ⊢
  obtain ⟨q, hq⟩ : ∃ q, decide (Has L z) = q := ⟨_, rfl⟩
  have hqq : (q != q) = false := by simp
  have hqe : (q == q) = true := by simp
  by_cases hp : POk L
  · have d1 : decide (POk L) = true := by simp [hp]
    have hzL : Hid (decide (z ∈ L) = q) := by show _ = _; rw [← hq]; exact decide_eq_decide.2 ⟨fun g => ⟨hp, g⟩, fun g => g.2⟩
    have hcn := Lib.hid (cnt_len hp)
    have HP := Lib.hid hp
    clear hp
    go_wp2_with (first | (go_at_call 17; go_must (refine (iPathHas_any _ L _ a _ hV hE).mono ?_); rintro e wx ⟨rfl, hbx⟩; replace hF := hF.below hbx; replace hV := Rows.below hV hbx; replace hE := hE.below hbx; clear hbx) | (go_at_call 18; go_must (refine (sPathHas_any _ L _ _ hV).mono ?_); rintro e wx ⟨rfl, hbx⟩; replace hF := hF.below hbx; replace hV := Rows.below hV hbx; replace hE := hE.below hbx; clear hbx) | (go_at_call 15; go_must (refine (sPathOk_any _ L _ hV).mono ?_); rintro e wx ⟨rfl, hbx⟩; replace hF := hF.below hbx; replace hV := Rows.below hV hbx; replace hE := hE.below hbx; clear hbx))
    obtain ⟨wa, rfl⟩ : ∃ wa : World, wa = wx := ⟨_, rfl⟩
    have HV := Lib.hid hV
    have HF := Lib.hid hF
    have HE := Lib.hid hE
    clear hV hF hE
    go_loopw [6, 7] (fun s6 s7 wr => ∃ k : Nat, k ≤ 5 ∧ s6 = .int .i64 (cnt L k) ∧ s7 = .int .i64 ((k : Int) + 1) ∧ Fb wa wr []) (fun _ s7 _ => 6 - (intOf s7).toNat)
    case atStart => exact ⟨0, by omega, rfl, rfl, Fb.start wa⟩
    case round =>
      obtain ⟨k, hk, rfl, rfl, hF⟩ := hrel
      have hck := cnt_le L k
      by_cases hlt : k < 5
      · have hle : (k : Int) + 1 ≤ 5 := by omega
        by_cases hin : ((k : Int) + 1) ∈ L
        · have d2 : decide (Has L ((k : Int) + 1)) = true := decide_eq_true ⟨HP.out, hin⟩
          have hst : Hid (cnt L (k + 1) = cnt L k + 1) := by show cnt L (k + 1) = _; simp [cnt, hin]
          clear hin
          go_wp2_with fail
          refine (iPathHas_any _ L _ a _ (Rows.below HV.out hF.kp) (HE.out.below hF.kp)).mono ?_; rintro e wx ⟨rfl, hbx⟩
          replace hF := hF.below hbx
          clear hbx
          go_wp2
          go_roundw
          case rel => exact ⟨k + 1, by omega, by rw [hst.out]; go_num, by go_num, hF⟩
          case measure => simp [intOf]; omega
        · have d2 : decide (Has L ((k : Int) + 1)) = false := decide_eq_false fun g => hin g.2
          have hst : Hid (cnt L (k + 1) = cnt L k) := by show cnt L (k + 1) = _; simp [cnt, hin]
          clear hin
          go_wp2_with fail
          refine (iPathHas_any _ L _ a _ (Rows.below HV.out hF.kp) (HE.out.below hF.kp)).mono ?_; rintro e wx ⟨rfl, hbx⟩
          replace hF := hF.below hbx
          clear hbx
          go_wp2
          go_roundw
          case rel => exact ⟨k + 1, by omega, by rw [hst.out], by go_num, hF⟩
          case measure => simp [intOf]; omega
      · obtain rfl : k = 5 := by omega
        have hc : cnt L 5 = n := by rw [hcn.out, hn.out]
        have hz' := hzL.out
        go_wp2_with (go_at_call 19; go_must (refine (lyIn_any _ L _ _ (Rows.below HV.out hF.kp)).mono ?_); rintro e wx ⟨rfl, hbx⟩; replace hF := hF.below hbx; clear hbx)
        go_ret
        exact ⟨by simp, (HF.out.below hF.kp).kp⟩
  · have d1 : decide (POk L) = false := by simp [hp]
    clear hp
    go_wp2_with (first | (go_at_call 17; go_must (refine (iPathHas_any _ L _ a _ hV hE).mono ?_); rintro e wx ⟨rfl, hbx⟩; replace hF := hF.below hbx; replace hV := Rows.below hV hbx; replace hE := hE.below hbx; clear hbx) | (go_at_call 18; go_must (refine (sPathHas_any _ L _ _ hV).mono ?_); rintro e wx ⟨rfl, hbx⟩; replace hF := hF.below hbx; replace hV := Rows.below hV hbx; replace hE := hE.below hbx; clear hbx) | (go_at_call 15; go_must (refine (sPathOk_any _ L _ hV).mono ?_); rintro e wx ⟨rfl, hbx⟩; replace hF := hF.below hbx; replace hV := Rows.below hV hbx; replace hE := hE.below hbx; clear hbx))
    go_ret
    exact ⟨by simp, hF.kp⟩
end Go.Proofs.YtcdmkmkjppbkgaaDoor
