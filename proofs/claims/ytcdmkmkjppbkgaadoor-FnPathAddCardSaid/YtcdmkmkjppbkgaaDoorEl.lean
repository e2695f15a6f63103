/- spec.PathAdd; laws FnPathAdd, FnPathCmp. -/
import Derived.Test.YtcdmkmkjppbkgaaDoorEj
import Derived.Test.YtcdmkmkjppbkgaaDoorEk
import Derived.Test.YtcdmkmkjppbkgaaDoorLi
set_option linter.unusedSimpArgs false
set_option linter.unusedVariables false
namespace Go.Proofs.YtcdmkmkjppbkgaaDoor
open Go.RowKit

set_option maxHeartbeats 1000000 in
theorem sPathAdd_any (v : Value) (L : List Int) (h : Int) (w : World) (hv : It w v L) :
    Calls Tryd.prog 21 #[v, .int .i64 h] w fun e w' => ∃ u, e = .returned (.tuple #[u, .bool (decide (PAdd L h))]) ∧ Own 3 w' w.heap.size u 1 encI (padd L h) ∧ Below w.heap.size w w' := by
  have hF := Fb.start w
  go_enter Tryd.func21, Tryd.ntmps21
  go_wp2_with fail
  refine (sPathOk_any _ L _ hv.1).mono ?_; rintro e w1 ⟨rfl, hb1⟩
  replace hF := hF.below hb1
  replace hv := hv.below hb1
  clear hb1
  by_cases hp : POk L
  · have d0 : decide (POk L) = true := by simp [hp]
    have hl5 := pok_len hp
    by_cases d1 : Bts h 1 5
    · have e1 : decide (Bts h 1 5) = true := by simp [d1]
      by_cases d2 : h ∈ L
      · have e2 : decide (h ∈ L) = true := by simp [d2]
        have hr : Hid (decide (PAdd L h) = false ∧ padd L h = []) := ⟨decide_eq_false fun g => g.2.2 d2, if_neg fun g => g.2.2 d2⟩
        clear d1 d2 hp
        go_wp2_with (first | (go_at_call 47; refine (l3House_any _ _).mono ?_; rintro e wx ⟨rfl, hbx⟩; replace hF := hF.below hbx; replace hv := hv.below hbx; clear hbx) | (go_at_call 48; refine (l3Has_any _ L _ _ hv.1).mono ?_; rintro e wx ⟨rfl, hbx⟩; replace hF := hF.below hbx; replace hv := hv.below hbx; clear hbx))
        go_ret2
        exact ⟨_, by rw [hr.out.1]; rfl, by rw [hr.out.2]; exact Own.made _ _ _ _ _ hF.kp.size, (hF.other _).kp⟩
      · have e2 : decide (h ∈ L) = false := by simp [d2]
        have hr : Hid (decide (PAdd L h) = true ∧ padd L h = h :: L) := ⟨decide_eq_true ⟨hp, d1, d2⟩, if_pos ⟨hp, d1, d2⟩⟩
        clear d1 d2 hp
        have hao := hv.2
        rcases hao with rfl | ⟨b, off, n, c, rfl⟩
        · have hL0 : Hid (L = []) := by
            obtain ⟨ao, cap, e, _⟩ := hv.1.ex
            injection e with _ e; exact List.length_eq_zero_iff.1 e.symm
          go_wp2_with (first | (go_at_call 47; refine (l3House_any _ _).mono ?_; rintro e wx ⟨rfl, hbx⟩; replace hF := hF.below hbx; replace hv := hv.below hbx; clear hbx) | (go_at_call 48; refine (l3Has_any _ L _ _ hv.1).mono ?_; rintro e wx ⟨rfl, hbx⟩; replace hF := hF.below hbx; replace hv := hv.below hbx; clear hbx))
          go_ret2
          exact ⟨_, by rw [hr.out.1]; rfl, by rw [hr.out.2, hL0.out]; exact Own.lit _ _ _ 1 encI [h] (fun _ => rfl) hF.kp.size (by simp), (hF.other _).kp⟩
        · have hn : Hid (L.length = n) := by
            obtain ⟨ao, cap, e, _⟩ := hv.1.ex
            injection e with _ e; exact e.symm
          have hn5 : n ≤ 5 := by have := hn.out; omega
          go_wp2_with (first | (go_at_call 47; refine (l3House_any _ _).mono ?_; rintro e wx ⟨rfl, hbx⟩; replace hF := hF.below hbx; replace hv := hv.below hbx; clear hbx) | (go_at_call 48; refine (l3Has_any _ L _ _ hv.1).mono ?_; rintro e wx ⟨rfl, hbx⟩; replace hF := hF.below hbx; replace hv := hv.below hbx; have hsz := hF.kp.size; clear hbx) | (at_builtin; refine wpList_apps rfl _ _ 23 rfl 3 (.int .i64 0) 1 8 Tryd.underlying23 infoInt rfl (by decide) (by decide) w.heap.size encI (fun _ => rfl) (fun _ u hu => by simp [encI] at hu; subst hu; rfl) _ [h] rfl (Own.lit _ _ _ 1 encI [h] (fun _ => rfl) hsz (by simp)) b off n c L rfl (Rows.alloc hv.1 _) (by simp; omega) (by simp; omega) ?_; intro v' wx hO1 hg1 hb1 hf1 hz1; replace hF := (hF.other _).belowB hb1 (Nat.le_refl _) (by simp); clear hg1 hb1 hf1 hz1))
          go_ret2
          exact ⟨_, by rw [hr.out.1]; rfl, by rw [hr.out.2]; exact hO1, hF.kp⟩
    · have e1 : decide (Bts h 1 5) = false := by simp [d1]
      have hr : Hid (decide (PAdd L h) = false ∧ padd L h = []) := ⟨decide_eq_false fun g => d1 g.2.1, if_neg fun g => d1 g.2.1⟩
      clear d1 hp
      go_wp2_with (first | (go_at_call 47; refine (l3House_any _ _).mono ?_; rintro e wx ⟨rfl, hbx⟩; replace hF := hF.below hbx; replace hv := hv.below hbx; clear hbx))
      go_ret2
      exact ⟨_, by rw [hr.out.1]; rfl, by rw [hr.out.2]; exact Own.made _ _ _ _ _ hF.kp.size, (hF.other _).kp⟩
  · have d0 : decide (POk L) = false := by simp [hp]
    have hr : Hid (decide (PAdd L h) = false ∧ padd L h = []) := ⟨decide_eq_false fun g => hp g.1, if_neg fun g => hp g.1⟩
    clear hp
    go_wp2_with fail
    go_ret2
    exact ⟨_, by rw [hr.out.1]; rfl, by rw [hr.out.2]; exact Own.made _ _ _ _ _ hF.kp.size, (hF.other _).kp⟩
end Go.Proofs.YtcdmkmkjppbkgaaDoor
