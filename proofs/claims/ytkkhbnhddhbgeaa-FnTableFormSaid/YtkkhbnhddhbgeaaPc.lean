/- FnTableForm: the walk. -/
import Derived.Test.YtkkhbnhddhbgeaaPb
import Derived.IntWalk
set_option linter.unusedSimpArgs false
set_option linter.unusedVariables false
namespace Go.Proofs.Ytkkhbnhddhbgeaa
open Go.RowKit

theorem ents_take {w : World} {b off n c : Nat} {T : List Ent} (h : Ents w (.slice (some ⟨b, off, none⟩) n c) T) {k : Nat} (hk : k ≤ n) (hc : n ≤ c) (hcc : c ≤ 9223372036854775807) : Ents w (.slice (some ⟨b, off, none⟩) k c) (T.take k) := by
  have := Rows.sub h (i := 0) (j := k) (c' := c) (by omega) hk (by omega) hcc
  simpa using this
theorem ents_drop {w : World} {b off n c : Nat} {T : List Ent} (h : Ents w (.slice (some ⟨b, off, none⟩) n c) T) {k : Nat} (hk : k ≤ n) (hc : n ≤ c) (hcc : c ≤ 9223372036854775807) : Ents w (.slice (some ⟨b, off + k * 3, none⟩) (n - k) (c - k)) (T.drop k) := by
  have hl : T.length = n := by obtain ⟨ao, cap, e, _⟩ := h.ex; injection e with _ e; exact e.symm
  have := Rows.sub h (i := k) (j := n) (c' := c - k) hk (by omega) (by omega) (by omega)
  rw [List.take_of_length_le (by omega)] at this
  exact this
theorem ents_drop0 {w : World} {b n c : Nat} {T : List Ent} (h : Ents w (.slice (some ⟨b, 0, none⟩) n c) T) {k : Nat} (hk : k ≤ n) (hc : n ≤ c) (hcc : c ≤ 9223372036854775807) : Ents w (.slice (some ⟨b, k * 3, none⟩) (n - k) (c - k)) (T.drop k) := by
  have := ents_drop h hk hc hcc
  rwa [Nat.zero_add] at this
theorem one_encE (x : Ent) : ∀ u ∈ encE x, u.oneCell' = true := fun u hu => by simp [encE] at hu; rcases hu with rfl | rfl | rfl <;> rfl
theorem Own.made' {α : Type} (E : TypeId) (w : World) (B sz g : Nat) (enc : α → List Value) (hg : g = w.heap.size) (hB : B ≤ w.heap.size) : Own E (w.alloc (.cells #[] E)) B (.slice (some ⟨g, 0, none⟩) 0 0) sz enc [] := by
  subst hg; exact Own.made E w B sz enc hB
/-- One entry of one's own row written. -/
theorem put3w {E : TypeId} {W w : World} {B g g9 n c c9 k : Nat} {T S : List Ent} (hF : Fb W w []) (hV : Ents w (.slice (some ⟨g, 0, none⟩) n c) T) (hS : Own E w B (.slice (some ⟨g9, 0, none⟩) n c9) 3 encE S) (hW : W.heap.size ≤ g9) (hg : g ≠ g9) (hk : k < S.length) (f b v : Int) :
    ∃ w', w' = (((w.setCell ⟨g9, k * 3, none⟩ (.int .i64 f)).setCell ⟨g9, k * 3 + 1, none⟩ (.int .i64 b)).setCell ⟨g9, k * 3 + 2, none⟩ (.int .i64 v)) ∧ Fb W w' [] ∧ Ents w' (.slice (some ⟨g, 0, none⟩) n c) T ∧ Own E w' B (.slice (some ⟨g9, 0, none⟩) n c9) 3 encE (S.set k (f, b, v)) := by
  have ho : (Value.slice (some ⟨g, 0, none⟩) n c).ownBlock ≠ some g9 := fun e => hg (by injection e)
  exact ⟨_, rfl, ((hF.setAway _ _ hW (by simp)).setAway _ _ hW (by simp)).setAway _ _ hW (by simp), Rows.setO (Rows.setO (Rows.setO hV ho _) ho _) ho _, hS.put3 f b v hk⟩
set_option maxHeartbeats 4000000 in
set_option maxRecDepth 100000 in
theorem FnTableForm_walk (a0 a1 : Option Addr) (n0 c0 n1 c1 : Nat) (w : World) (h0 : Given w (.slice a0 n0 c0)) (_h1 : Given w (.slice a1 n1 c1)) :
    Calls Try.prog 5 #[.slice a0 n0 c0, .slice a1 n1 c1] w fun e w' => e = .returned (.bool true) ∧ Below w.heap.size w w' := by
  by_cases hn0 : 1048576 < n0
  · have e0 : decide (1048576 < (n0 : Int)) = true := by simp; omega
    go_enter Try.func5, Try.ntmps5
    go_wp2
    go_ret
    exact ⟨rfl, Below.refl _ _⟩
  have e0 : decide (1048576 < (n0 : Int)) = false := by simp; omega
  by_cases hn1 : 1048576 < n1
  · have e1 : decide (1048576 < (n1 : Int)) = true := by simp; omega
    go_enter Try.func5, Try.ntmps5
    go_wp2
    go_ret
    exact ⟨rfl, Below.refl _ _⟩
  have e1 : decide (1048576 < (n1 : Int)) = false := by simp; omega
  have hF := Fb.start w
  clear _h1
  go_enter Try.func5, Try.ntmps5
  go_wp2_with fail
  refine (drawTableOk_any _ _ h0).mono ?_; rintro e w1 ⟨v, T, rfl, hO, hT, hb1⟩
  replace hF := hF.below hb1
  clear hb1 h0
  obtain ⟨n, hn⟩ : ∃ n, Hid (T.length = n) := ⟨_, rfl⟩
  have tok1 : True := trivial
  by_cases hp : TOk T
  · have d1 : decide (TOk T) = true := decide_eq_true hp
    have hn12 : n ≤ 12 := by have := hp.2; have := hn.out; omega
    have HP := Lib.hid hp
    clear hp
    by_cases h2 : n < 2
    · have hV : Ents w1 v T := hO.rows (fun _ => rfl)
      obtain ⟨ao, c, hsl⟩ := hO.sl
      subst hsl
      rw [hn.out] at hV ⊢
      clear hO
      have h2' : (n : Int) < 2 := by omega
      have d2 : decide (TOk []) = true := decide_eq_true tok_nil
      go_wp2_with (first | (go_at_call 20; clear tok1; go_must (refine (iTableOk_any _ T _ hV).mono ?_); rintro e wx ⟨rfl, hbx⟩; replace hF := hF.below hbx; replace hV := Rows.below hV hbx; clear hbx) | (go_at_call 21; go_must (refine (sTableOk_any _ T _ hV).mono ?_); rintro e wx ⟨rfl, hbx⟩; replace hF := hF.below hbx; replace hV := Rows.below hV hbx; clear hbx) | (go_at_call 20; go_must (refine (iTableOk_any _ [] _ (Rows.nil _ none 0 (by omega) _ _)).mono ?_); rintro e wx ⟨rfl, hbx⟩; replace hF := hF.below hbx; replace hV := Rows.below hV hbx; clear hbx))
      go_ret
      exact ⟨rfl, hF.kp⟩
    · have hV : Ents w1 v T := hO.rows (fun _ => rfl)
      obtain ⟨g, c, rfl, hnc, -⟩ := own_some' hO hn.out (by omega)
      have hcc : c ≤ 9223372036854775807 := by
        obtain ⟨ao, cap, e, _, h3, _⟩ := hV.ex
        injection e with _ _ e; omega
      clear hO
      have h2' : ¬ (n : Int) < 2 := by omega
      obtain ⟨m, hm1, hm2⟩ : ∃ m, m + 1 ≤ n ∧ n ≤ m + 1 := ⟨n - 1, by omega, by omega⟩
      have hsub : (n : Int) - 1 = (m : Int) := by omega
      have hm0 : 0 < (m : Int) := by omega
      obtain ⟨k, hk⟩ : ∃ k : Nat, (n1 : Int) % (m : Int) = (k : Int) := ⟨n1 % m, by simp⟩
      have hkm : k < m := by
        have := Int.emod_lt_of_pos (n1 : Int) hm0
        omega
      go_upto_region 10 with (first | (go_at_call 20; clear tok1; go_must (refine (iTableOk_any _ T _ hV).mono ?_); rintro e wx ⟨rfl, hbx⟩; replace hF := hF.below hbx; replace hV := Rows.below hV hbx; clear hbx) | (go_at_call 21; go_must (refine (sTableOk_any _ T _ hV).mono ?_); rintro e wx ⟨rfl, hbx⟩; replace hF := hF.below hbx; replace hV := Rows.below hV hbx; clear hbx))
      rw [hk]
      have hgl := Rows.lt hV (fun _ => by simp [encE]) (by rw [hn.out]; omega) g rfl
      have hWx := hF.kp.size
      have hb0 := (Below.refl wx.heap.size wx).alloc (Nat.le_refl _) (.cells #[] 40)
      have hO := Own.made 40 wx wx.heap.size 3 encE (Nat.le_refl _)
      have hVa := Rows.below hV hb0
      clear hk hsub
      obtain ⟨k1, hk1, hk2⟩ : ∃ k1, k + 1 ≤ k1 ∧ k1 ≤ k + 1 := ⟨k + 1, by omega, by omega⟩
      have hadd : (k : Int) + 1 = (k1 : Int) := by omega
      obtain ⟨y, hy⟩ := get_of hn.out (show k < n by omega)
      obtain ⟨x, hx⟩ := get_of hn.out (show k1 < n by omega)
      obtain ⟨yf, yb, yv⟩ := y
      obtain ⟨xf, xb, xv⟩ := x
      have HY := Lib.hid hy
      have HX := Lib.hid hx
      clear hy hx
      go_upto_region 11 with (at_builtin; refine wpList_apps (by rfl) _ _ 36 rfl 40 (.agg #[.int .i64 0, .int .i64 0, .int .i64 0]) 3 24 Try.underlying36 infoEnt rfl (by decide) (by decide) wx.heap.size encE (fun _ => rfl) (fun _ u hu => by simp [encE] at hu; rcases hu with rfl | rfl | rfl <;> rfl) _ [] rfl hO g 0 n c T rfl hVa (by simp; omega) (by simp) ?_; intro u9 wy hO1 hg1 hb1 hf1 hz1; rw [List.nil_append] at hO1; clear hg1 hf1 hz1)
      obtain ⟨g9, c9, hu9, hn9, hg9⟩ := own_some' hO1 hn.out (by omega)
      subst hu9
      have hb2 := hb0.trans hb1
      replace hF := hF.below hb2
      replace hV := Rows.below hV hb2
      have hne : g ≠ g9 := by omega
      have hW9 : w.heap.size ≤ g9 := by omega
      have hc9 : c9 ≤ 9223372036854775807 := by
        obtain ⟨ao, cap, e, _, h3, _⟩ := (hO1.rows (fun _ => rfl)).ex
        injection e with _ _ e; omega
      clear hO hVa hb0 hb1 hb2 hgl
      have hkn : k < n := by omega
      have hk1n : k1 < n := by omega
      have hkT : k < T.length := by have := hn.out; omega
      have hk1T : k1 < T.length := by have := hn.out; omega
      have x0 := Rows.get hV HX.out (j := 0) rfl
      have x1 := Rows.get hV HX.out (j := 1) rfl
      have x2 := Rows.get hV HX.out (j := 2) rfl
      obtain ⟨⟨z0, s0⟩, ⟨z1, s1⟩, ⟨z2, s2⟩, fz⟩ := hO1.cells3 hkT
      have f0 := fz (k * 3)
      have f1 := fz (k * 3 + 1)
      have f2 := fz (k * 3 + 2)
      clear fz
      rw [Nat.zero_add] at x0 x1 x2
      dsimp only [Nat.add_zero] at x0 x1 x2
      go_upto_region 12 with (fail)
      obtain ⟨w3, hw3, F3, V3, S3⟩ := put3w hF hV hO1 hW9 hne hkT xf xb xv
      rw [← hw3]
      clear hw3 x0 x1 x2 s0 s1 s2 f0 f1 f2 hO1 hF hV
      have y0 := Rows.get V3 HY.out (j := 0) rfl
      have y1 := Rows.get V3 HY.out (j := 1) rfl
      have y2 := Rows.get V3 HY.out (j := 2) rfl
      rw [Nat.zero_add] at y0 y1 y2
      dsimp only [Nat.add_zero] at y0 y1 y2
      obtain ⟨⟨z0, s0⟩, ⟨z1, s1⟩, ⟨z2, s2⟩, fz⟩ := S3.cells3 (k := k1) (by rw [List.length_set]; exact hk1T)
      have f0 := fz (k1 * 3)
      have f1 := fz (k1 * 3 + 1)
      have f2 := fz (k1 * 3 + 2)
      clear fz
      go_upto_region 13 with (fail)
      obtain ⟨w6, hw6, F6, V6, S6⟩ := put3w F3 V3 S3 hW9 hne (k := k1) (by rw [List.length_set]; exact hk1T) yf yb yv
      rw [← hw6]
      clear hw6 y0 y1 y2 s0 s1 s2 f0 f1 f2 S3 F3 V3
      have e1 : k1 = k + 1 := by omega
      have q2 : decide (TOk ((T.set k (xf, xb, xv)).set k1 (yf, yb, yv))) = false := by
        subst e1; exact decide_eq_false (tok_swap HP.out HY.out HX.out)
      have q1 : decide (TOk (T.take k)) = true := decide_eq_true (tok_take HP.out k)
      have q3 : decide (TOk (T.take k1 ++ T.drop k)) = false := by
        subst e1; exact decide_eq_false (tok_twice HY.out)
      have hS : Ents w6 _ _ := S6.rows (fun _ => rfl)
      have HV := Lib.hid V6
      have HS := Lib.hid hS
      have HF := Lib.hid F6
      have hQ := Fb.start w6
      have hkc : k ≤ c := by omega
      have hk1c : k1 ≤ c := by omega
      have hkc' : ¬ k = c := by omega
      have hkc2 : ¬ c = k := by omega
      have hTl := hn.out
      have hkl : (T.take k1).length = k1 := by rw [List.length_take]; omega
      have hsz6 := HF.out.kp.size
      have HKL := Lib.hid hkl
      have i0 : (0 : Int) ≤ (k : Int) := by omega
      have i1 : (k : Int) ≤ (c : Int) := by omega
      have i2 : (k : Int) ≤ (n : Int) := by omega
      have i3 : (0 : Int) ≤ (k1 : Int) := by omega
      have i4 : (k1 : Int) ≤ (c : Int) := by omega
      have i5 : IntKind.i64.wrap (k1 : Int) = (k1 : Int) := IntWalk.i64_in _ (by omega)
      have tok2 : True := trivial
      have tok3 : True := trivial
      have tok4 : True := trivial
      clear V6 F6 S6 hS e1 hTl hkl
      go_region_held3 (fun w' => True) (exact trivial) (first
        | (go_at_call 20; clear tok2; go_must (refine (iTableOk_any _ (T.take k) _ (ents_take (Rows.below HV.out (Fb.kp (L := []) (by repeat (first | assumption | apply Fb.alloc_1 | apply Fb.alloc_2 | apply Fb.alloc_3 | apply Fb.alloc_4 | apply Fb.alloc_5 | apply Fb.alloc_8 | apply Fb.drew | apply Fb.drewN | apply Fb.other)))) (by omega) hnc hcc)).mono ?_); rintro e wx ⟨rfl, hbx⟩; replace hQ := Fb.below (L := []) (by repeat (first | assumption | apply Fb.alloc_1 | apply Fb.alloc_2 | apply Fb.alloc_3 | apply Fb.alloc_4 | apply Fb.alloc_5 | apply Fb.alloc_8 | apply Fb.drew | apply Fb.drewN | apply Fb.other)) hbx; clear hbx)
        | (go_at_call 20; clear tok3; go_must (refine (iTableOk_any _ ((T.set k (xf, xb, xv)).set k1 (yf, yb, yv)) _ (Rows.below HS.out (Fb.kp (L := []) (by repeat (first | assumption | apply Fb.alloc_1 | apply Fb.alloc_2 | apply Fb.alloc_3 | apply Fb.alloc_4 | apply Fb.alloc_5 | apply Fb.alloc_8 | apply Fb.drew | apply Fb.drewN | apply Fb.other))))).mono ?_); rintro e wx ⟨rfl, hbx⟩; replace hQ := Fb.below (L := []) (by repeat (first | assumption | apply Fb.alloc_1 | apply Fb.alloc_2 | apply Fb.alloc_3 | apply Fb.alloc_4 | apply Fb.alloc_5 | apply Fb.alloc_8 | apply Fb.drew | apply Fb.drewN | apply Fb.other)) hbx; clear hbx)
        | (clear tok4; refine step_apps (by rfl) _ _ 36 (by rfl) 40 (.agg #[.int .i64 0, .int .i64 0, .int .i64 0]) 3 24 Try.underlying36 infoEnt rfl (by decide) (by decide) w6.heap.size encE (fun _ => rfl) one_encE _ [] (by rfl) (by repeat (first | assumption | exact Own.made' _ _ _ _ _ _ (by simp) (Below.size (Fb.kp (L := []) (by repeat (first | assumption | apply Fb.alloc_1 | apply Fb.alloc_2 | apply Fb.alloc_3 | apply Fb.alloc_4 | apply Fb.alloc_5 | apply Fb.alloc_8 | apply Fb.drew | apply Fb.drewN | apply Fb.other)))) | apply Own.alloc | apply Own.drew)) g 0 k1 c (T.take k1) (by rfl) (ents_take (Rows.below HV.out (Fb.kp (L := []) (by repeat (first | assumption | apply Fb.alloc_1 | apply Fb.alloc_2 | apply Fb.alloc_3 | apply Fb.alloc_4 | apply Fb.alloc_5 | apply Fb.alloc_8 | apply Fb.drew | apply Fb.drewN | apply Fb.other)))) (by omega) hnc hcc) (by simp; omega) (Below.size (Fb.kp (L := []) (by repeat (first | assumption | apply Fb.alloc_1 | apply Fb.alloc_2 | apply Fb.alloc_3 | apply Fb.alloc_4 | apply Fb.alloc_5 | apply Fb.alloc_8 | apply Fb.drew | apply Fb.drewN | apply Fb.other)))) ?_; intro v9 w9 hO9 hg9 hb9 hf9; rw [List.nil_append] at hO9; replace hQ := Fb.belowB (L := []) (by repeat (first | assumption | apply Fb.alloc_1 | apply Fb.alloc_2 | apply Fb.alloc_3 | apply Fb.alloc_4 | apply Fb.alloc_5 | apply Fb.alloc_8 | apply Fb.drew | apply Fb.drewN | apply Fb.other)) hb9 (Nat.le_refl _) (by simp); clear hg9 hb9 hf9)
        | (refine step_apps (by rfl) _ _ 36 (by rfl) 40 (.agg #[.int .i64 0, .int .i64 0, .int .i64 0]) 3 24 Try.underlying36 infoEnt rfl (by decide) (by decide) w6.heap.size encE (fun _ => rfl) one_encE _ (T.take k1) (by rfl) hO9 g (k * 3) (n - k) (c - k) (T.drop k) (by rfl) (ents_drop0 (Rows.below HV.out (Fb.kp (L := []) (by repeat (first | assumption | apply Fb.alloc_1 | apply Fb.alloc_2 | apply Fb.alloc_3 | apply Fb.alloc_4 | apply Fb.alloc_5 | apply Fb.alloc_8 | apply Fb.drew | apply Fb.drewN | apply Fb.other)))) (by omega) hnc hcc) (by rw [HKL.out]; omega) (Below.size (Fb.kp (L := []) (by repeat (first | assumption | apply Fb.alloc_1 | apply Fb.alloc_2 | apply Fb.alloc_3 | apply Fb.alloc_4 | apply Fb.alloc_5 | apply Fb.alloc_8 | apply Fb.drew | apply Fb.drewN | apply Fb.other)))) ?_; intro v8 w8 hO8 hg8 hb8 hf8; replace hQ := Fb.belowB (L := []) (by repeat (first | assumption | apply Fb.alloc_1 | apply Fb.alloc_2 | apply Fb.alloc_3 | apply Fb.alloc_4 | apply Fb.alloc_5 | apply Fb.alloc_8 | apply Fb.drew | apply Fb.drewN | apply Fb.other)) hb8 (Nat.le_refl _) (by simp); have hR8 := hO8.rows (fun _ => rfl); clear hg8 hb8 hf8 hO8)
        | (go_at_call 20; go_must (refine (iTableOk_any _ (T.take k1 ++ T.drop k) _ hR8).mono ?_); rintro e wx ⟨rfl, hbx⟩; replace hQ := Fb.below (L := []) (by repeat (first | assumption | apply Fb.alloc_1 | apply Fb.alloc_2 | apply Fb.alloc_3 | apply Fb.alloc_4 | apply Fb.alloc_5 | apply Fb.alloc_8 | apply Fb.drew | apply Fb.drewN | apply Fb.other)) hbx; clear hbx))
      all_goals go_wp2
      all_goals go_ret
      all_goals exact ⟨rfl, (HF.out.below hQ.kp).kp⟩
  · have d1 : decide (TOk T) = false := decide_eq_false hp
    have hV : Ents w1 v T := hO.rows (fun _ => rfl)
    obtain ⟨ao, c, hsl⟩ := hO.sl
    subst hsl
    rw [hn.out] at hV ⊢
    clear hO hp
    go_wp2_with (first | (go_at_call 20; clear tok1; go_must (refine (iTableOk_any _ T _ hV).mono ?_); rintro e wx ⟨rfl, hbx⟩; replace hF := hF.below hbx; replace hV := Rows.below hV hbx; clear hbx) | (go_at_call 21; go_must (refine (sTableOk_any _ T _ hV).mono ?_); rintro e wx ⟨rfl, hbx⟩; replace hF := hF.below hbx; replace hV := Rows.below hV hbx; clear hbx))
    go_ret
    exact ⟨rfl, hF.kp⟩
end Go.Proofs.Ytkkhbnhddhbgeaa
