/- Draws of path laws. -/
import Derived.Test.YtgegmampnpgcaaaDoorEf
set_option linter.unusedSimpArgs false
set_option linter.unusedVariables false
namespace Go.Proofs.YtgegmampnpgcaaaDoor
open Go.RowKit

theorem drawPathText_any (v0 : Value) (w : World) (h : Given w v0) :
    Calls Tryd.prog 21 #[v0] w fun e w' => ∃ (v : Value) (L : List Int), e = .returned v ∧ It w' v L ∧ L.length ≤ 4 ∧ (∀ x ∈ L, Bts x 1 5) ∧ Below w.heap.size w w' := by
  go_enter Tryd.func21, Tryd.ntmps21
  go_wp2_with fail
  refine (open_any v0 _ h).mono ?_; rintro e w1 ⟨rfl, hR, hb1⟩
  clear h
  go_wp2_with fail
  refine (l91Path_any _ 0 _ hR (by omega)).mono ?_; rintro e w2 ⟨v, L, rfl, hO, hL, hH, -, hK2⟩
  have HH := Lib.hid hH
  have hV := hO.it
  have hB : Below w.heap.size w w2 := hb1.trans (hK2.below (Nat.le_refl _) hb1.size)
  clear hO hK2 hR hb1 hH
  go_wp2
  go_ret
  exact ⟨v, L, rfl, hV, hL, HH.out, hB⟩
theorem drawPathOk_any (v0 : Value) (w : World) (h : Given w v0) :
    Calls Tryd.prog 18 #[v0] w fun e w' => ∃ (v : Value) (L : List Int), e = .returned v ∧ It w' v L ∧ L.length ≤ 5 ∧ Below w.heap.size w w' := by
  go_enter Tryd.func18, Tryd.ntmps18
  go_wp2_with fail
  refine (open_any v0 _ h).mono ?_; rintro e w1 ⟨rfl, hR, hbb⟩
  have hlt := hR.lt
  have hs0 := hbb.size
  clear h
  go_wp2_with fail
  refine (l91Path_any _ 0 _ hR (by omega)).mono ?_; rintro e w2 ⟨v, L, rfl, hO, hL, -, ⟨k2, hk2, hR2⟩, hK2⟩
  replace hbb := hbb.trans (hK2.below (B := w.heap.size) (Nat.le_refl _) hs0)
  have hs1 := hK2.size
  clear hR hK2
  go_wp2_with fail
  refine (pick_any _ _ _ _ hR2 (by omega) (by omega) (by omega)).mono ?_; rintro e w3 ⟨v3, rfl, u3, l3, hR3, hK3⟩
  have hs3 := hK3.size
  replace hO := hO.kp hK3 hlt
  replace hbb := hbb.trans (hK3.below (B := w.heap.size) (Nat.le_refl _) hbb.size)
  clear hR2 hK3
  by_cases hz : v3 = 0
  · subst hz
    go_wp2_with fail
    refine (pick_any _ _ _ _ hR3 (by omega) (by omega) (by omega)).mono ?_; rintro e w4 ⟨v4, rfl, u4, l4, hR4, hK4⟩
    have hs4 := hK4.size
    replace hO := hO.kp hK4 hlt
    replace hbb := hbb.trans (hK4.below (B := w.heap.size) (Nat.le_refl _) hbb.size)
    clear hR3 hK4 hR4
    go_wp2_with ((at_builtin; refine wpList_app rfl _ _ 27 rfl 3 (.int .i64 0) 1 8 Tryd.underlying27 infoInt rfl (by decide) (by decide) w1.heap.size encI _ _ rfl (hO.alloc _) (v4) ⟨_, 0, none⟩ 1 rfl rfl (cells_new _ _ _) (by simp [encI, Value.oneCell']) (by omega) (by simp only [World.size_alloc]; omega) ?_; intro v' wx hO1 hg1 hb1 hf1; (replace hbb := (hbb.alloc hbb.size _).trans (hb1.mono hs0); clear hO hg1 hb1 hf1)))
    go_ret
    exact ⟨_, _, rfl, hO1.it, by simp; omega, hbb⟩
  · have dz : (v3 == 0) = false := by simp [hz]
    go_wp2
    go_ret
    exact ⟨_, L, rfl, hO.it, by omega, hbb⟩
theorem drawPathCmp_any (v0 : Value) (w : World) (h : Given w v0) :
    Calls Tryd.prog 26 #[v0] w fun e w' => ∃ (v1 v2 : Value) (L K : List Int), e = .returned (.tuple #[v1, v2]) ∧ It w' v1 L ∧ It w' v2 K ∧ L.length ≤ 4 ∧ K.length ≤ 4 ∧ Below w.heap.size w w' := by
  go_enter Tryd.func26, Tryd.ntmps26
  go_wp2_with fail
  refine (open_any v0 _ h).mono ?_; rintro e w1 ⟨rfl, hR, hbb⟩
  have hlt := hR.lt
  have hs0 := hbb.size
  clear h
  go_wp2_with fail
  refine (l91Path_any _ 0 _ hR (by omega)).mono ?_; rintro e w2 ⟨v, L, rfl, hO, hL, -, ⟨k2, hk2, hR2⟩, hK2⟩
  replace hbb := hbb.trans (hK2.below (B := w.heap.size) (Nat.le_refl _) hs0)
  have hs1 := hK2.size
  clear hR hK2
  go_wp2_with fail
  refine (pick_any _ _ _ _ hR2 (by omega) (by omega) (by omega)).mono ?_; rintro e w3 ⟨v3, rfl, u3, l3, hR3, hK3⟩
  have hs3 := hK3.size
  replace hO := hO.kp hK3 hlt
  replace hbb := hbb.trans (hK3.below (B := w.heap.size) (Nat.le_refl _) hbb.size)
  clear hR2 hK3
  by_cases hz : v3 = 0
  · subst hz
    rcases hO.two with ⟨rfl, rfl⟩ | ⟨g, c, n, rfl, hnc, hn⟩
    · have hV := hO.it
      go_wp2
      go_ret2
      exact ⟨_, _, [], [], rfl, hV.below ((Below.refl _ _).alloc (Nat.le_refl _) _), Own.it (Own.made _ _ _ _ _ (Nat.le_refl _)), by simp, by simp, hbb.alloc hbb.size _⟩
    · have hB := hO.lt g rfl
      go_wp2_with (at_builtin; refine wpList_apps rfl _ _ 27 rfl 3 (.int .i64 0) 1 8 Tryd.underlying27 infoInt rfl (by decide) (by decide) w3.heap.size encI (fun _ => rfl) (fun _ u hu => by simp [encI] at hu; subst hu; rfl) _ [] rfl (Own.made _ _ _ _ _ (Nat.le_refl _)) g 0 n c L rfl (hO.alloc _).ints (by simp; have := hn.out; omega) (by simp) ?_; intro v' wx hO1 hg1 hb1 hf1 hz1; replace hbb := (hbb.alloc hbb.size _).trans (hb1.mono (by have := hbb.size; simp; omega)); have hV := It.below hO.it (((Below.refl w3.heap.size w3).alloc (Nat.le_refl _) _).trans hb1); clear hg1 hb1 hf1 hz1)
      go_ret2
      exact ⟨_, _, L, L, rfl, hV, hO1.it, by omega, by omega, hbb⟩
  · have dz : (v3 == 0) = false := by simp [hz]
    clear hz
    go_wp2_with fail
    refine (l91Path_any _ _ _ hR3 (by omega)).mono ?_; rintro e w4 ⟨v4, K, rfl, hO4, hL4, -, -, hK4⟩
    have hV := (hO.kp hK4 hlt).it
    replace hbb := hbb.trans (hK4.below (B := w.heap.size) (Nat.le_refl _) hbb.size)
    clear hR3 hK4
    go_wp2
    go_ret2
    exact ⟨_, _, L, K, rfl, hV, hO4.it, by omega, by omega, hbb⟩
end Go.Proofs.YtgegmampnpgcaaaDoor
