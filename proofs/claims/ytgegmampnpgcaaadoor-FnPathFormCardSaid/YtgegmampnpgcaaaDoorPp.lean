/- FnPathForm: the walk. -/
import Derived.Test.YtgegmampnpgcaaaDoorEg
import Derived.Test.YtgegmampnpgcaaaDoorBs
import Derived.Test.YtgegmampnpgcaaaDoorBr
import Derived.Deep.RegionHeld3
set_option linter.unusedSimpArgs false
set_option linter.unusedVariables false
namespace Go.Proofs.YtgegmampnpgcaaaDoor
open Go.RowKit

theorem ints_capP {w : World} {ao : Option Addr} {n c : Nat} {L : List Int} (h : Ints w (.slice ao n c) L) : n ≤ c ∧ c ≤ 9223372036854775807 ∧ L.length = n := by
  obtain ⟨ao, cap, e, h1, h2, _⟩ := h.ex
  injection e with e1 e2 e3
  subst e2; subst e3
  exact ⟨h1, h2, rfl⟩
theorem ints_dropP {w : World} {b off n c : Nat} {L : List Int} (h : Ints w (.slice (some ⟨b, off, none⟩) n c) L) {k : Nat} (hk : k ≤ n) : Ints w (.slice (some ⟨b, off + k, none⟩) (n - k) (c - k)) (L.drop k) := by
  obtain ⟨hc, hcc, hl⟩ := ints_capP h
  have := Rows.sub h (i := k) (j := n) (c' := c - k) (by omega) (by omega) (by omega) (by omega)
  rw [List.take_of_length_le (by omega)] at this
  simpa using this
theorem ints_takeP {w : World} {b off n c : Nat} {L : List Int} (h : Ints w (.slice (some ⟨b, off, none⟩) n c) L) {k : Nat} (hk : k ≤ n) : Ints w (.slice (some ⟨b, off, none⟩) k c) (L.take k) := by
  obtain ⟨hc, hcc, hl⟩ := ints_capP h
  have := Rows.sub h (i := 0) (j := k) (c' := c) (by omega) hk (by omega) hcc
  simpa using this
theorem not_pok_dup {L : List Int} {k : Nat} {x : Int} (h : L[k]? = some x) : ¬ POk (L ++ [x]) := fun g => (pok_snoc.1 g).2.2 (List.mem_of_getElem? h)
theorem not_pok_0 : ¬ POk [0] := fun g => by have := (g.1 0 (by simp)).1; omega
theorem Own.made' {α : Type} (E : TypeId) (w : World) (B sz g : Nat) (enc : α → List Value) (hg : g = w.heap.size) (hB : B ≤ w.heap.size) : Own E (w.alloc (.cells #[] E)) B (.slice (some ⟨g, 0, none⟩) 0 0) sz enc [] := by
  subst hg; exact Own.made E w B sz enc hB
theorem one_enc (x : Int) : ∀ u ∈ encI x, u.oneCell' = true := fun u hu => by simp [encI] at hu; subst hu; rfl
theorem one_cell {w : World} {g : Nat} {x : Int} (h : w.cell? ⟨g, 0, none⟩ = some (.int .i64 x)) : ∀ j u, (encI x)[j]? = some u → w.cell? ((⟨g, 0, none⟩ : Addr).add j) = some u := by
  intro j u hj
  match j, hj with
  | 0, hj => rw [addr_add]; simp [encI] at hj; subst hj; exact h
  | j + 1, hj => simp [encI] at hj
theorem cells_newD (w : World) (vs : List Value) (T : TypeId) : ∀ j u, vs[j]? = some u → (w.alloc (.cells vs.toArray T)).drew.cell? ((⟨w.heap.size, 0, none⟩ : Addr).add j) = some u := cells_new w vs T
theorem lit0 (w : World) : Ints (w.alloc (.cells #[.int .i64 0] 3)) (.slice (some ⟨w.heap.size, 0, none⟩) 1 1) [0] := (Own.lit 3 w w.heap.size 1 encI [0] (fun _ => rfl) (Nat.le_refl _) (by simp)).rows (fun _ => rfl)
set_option maxRecDepth 100000 in
set_option maxHeartbeats 8000000 in
theorem FnPathForm_walk (a0 a1 : Option Addr) (n0 c0 n1 c1 : Nat) (a : Addr) (w : World) (h0 : Given w (.slice a0 n0 c0)) (_hG : Given w (.slice a1 n1 c1)) (hE : EPath w a) :
    Calls Tryd.prog 4 #[.slice a0 n0 c0, .slice a1 n1 c1] w fun e w' => e = .returned (.bool true) ∧ Below w.heap.size w w' := by
  by_cases hn0 : 1048576 < n0
  · have e0 : decide (1048576 < (n0 : Int)) = true := by simp; omega
    go_enter Tryd.func4, Tryd.ntmps4
    go_wp2
    go_ret
    exact ⟨rfl, Below.refl _ _⟩
  have e0 : decide (1048576 < (n0 : Int)) = false := by simp; omega
  by_cases hn1 : 1048576 < n1
  · have e1 : decide (1048576 < (n1 : Int)) = true := by simp; omega
    go_enter Tryd.func4, Tryd.ntmps4
    go_wp2
    go_ret
    exact ⟨rfl, Below.refl _ _⟩
  have e1 : decide (1048576 < (n1 : Int)) = false := by simp; omega
  have hF := Fb.start w
  clear _hG
  go_enter Tryd.func4, Tryd.ntmps4
  go_wp2_with fail
  refine (drawPathOk_any _ _ h0).mono ?_; rintro e w1 ⟨v, L, rfl, hV, hL5, hb1⟩
  replace hF := hF.below hb1
  replace hE := hE.below hb1
  clear hb1 h0
  have h1 := hV.1
  by_cases hp : POk L
  · have d1 : decide (POk L) = true := by simp [hp]
    rcases hV.2 with rfl | ⟨b, off, n, c, rfl⟩
    · clear hp hV
      go_wp2_with (first | (go_at_call 19; go_must (refine (iPathOk_any _ L a _ h1 hE).mono ?_); rintro e wx ⟨rfl, hbx⟩; replace hF := hF.below hbx; (try replace h1 := Rows.below h1 hbx); (try replace h2 := Rows.below h2 hbx); (try replace h3 := Rows.below h3 hbx); (try replace h4 := Rows.below h4 hbx); (try replace hG := hG.below hbx); (try replace hE := hE.below hbx); clear hbx) | (go_at_call 20; go_must (refine (sPathOk_any _ L _ h1).mono ?_); rintro e wx ⟨rfl, hbx⟩; replace hF := hF.below hbx; (try replace h1 := Rows.below h1 hbx); (try replace h2 := Rows.below h2 hbx); (try replace h3 := Rows.below h3 hbx); (try replace h4 := Rows.below h4 hbx); (try replace hG := hG.below hbx); (try replace hE := hE.below hbx); clear hbx))
      go_ret
      exact ⟨rfl, hF.kp⟩
    · obtain ⟨hnc, hcc, hl⟩ := ints_capP h1
      have hn := Lib.hid hl
      by_cases hn0 : n = 0
      · subst hn0
        clear hp hV hl
        go_wp2_with (first | (go_at_call 19; go_must (refine (iPathOk_any _ L a _ h1 hE).mono ?_); rintro e wx ⟨rfl, hbx⟩; replace hF := hF.below hbx; (try replace h1 := Rows.below h1 hbx); (try replace h2 := Rows.below h2 hbx); (try replace h3 := Rows.below h3 hbx); (try replace h4 := Rows.below h4 hbx); (try replace hG := hG.below hbx); (try replace hE := hE.below hbx); clear hbx) | (go_at_call 20; go_must (refine (sPathOk_any _ L _ h1).mono ?_); rintro e wx ⟨rfl, hbx⟩; replace hF := hF.below hbx; (try replace h1 := Rows.below h1 hbx); (try replace h2 := Rows.below h2 hbx); (try replace h3 := Rows.below h3 hbx); (try replace h4 := Rows.below h4 hbx); (try replace hG := hG.below hbx); (try replace hE := hE.below hbx); clear hbx))
        go_ret
        exact ⟨rfl, hF.kp⟩
      · have hn1 : ((n : Int) == 0) = false := by simp [hn0]
        have hnp : 0 < (n : Int) := by omega
        have hn5 : n ≤ 5 := by omega
        have hn5' : (n : Int) ≤ 5 := by omega
        obtain ⟨k, hk⟩ : ∃ k : Nat, (n1 : Int) % (n : Int) = (k : Int) := ⟨n1 % n, by simp⟩
        have hkn : k < n := by
          have := Int.emod_lt_of_pos (n1 : Int) hnp
          omega
        have hkc : k ≤ c := by omega
        have hkc' : ¬ k = c := by omega
        have hkc2 : ¬ c = k := by omega
        obtain ⟨x, hx⟩ := get_of hl hkn
        have q1 : decide (POk (L.drop k)) = true := decide_eq_true (pok_drop hp k)
        have q2 : decide (POk (L.take k)) = true := decide_eq_true (pok_take hp k)
        have q3 : decide (POk (L ++ [x])) = false := decide_eq_false (not_pok_dup hx)
        have q4 : decide (POk [0]) = false := decide_eq_false not_pok_0
        have i0 : (0 : Int) ≤ (k : Int) := by omega
        have i1 : (k : Int) ≤ (c : Int) := by omega
        have i2 : (k : Int) ≤ (n : Int) := by omega
        have i3 : (k : Int) < (n : Int) := by omega
        have i4 : ¬ (k : Int) = (c : Int) := by omega
        have i5 : ¬ (c : Int) = (k : Int) := by omega
        have tok1 : True := trivial
        have tok2 : True := trivial
        have tok3 : True := trivial
        have tok4 : True := trivial
        have tok5 : True := trivial
        have tok6 : True := trivial
        have tok7 : True := trivial
        have HX := Lib.hid hx
        have HN := Lib.hid hl
        clear hp hV hl hx hn0
        go_upto_region 8 with (first | (go_at_call 19; clear tok1; go_must (refine (iPathOk_any _ L a _ h1 hE).mono ?_); rintro e wx ⟨rfl, hbx⟩; replace hF := hF.below hbx; replace h1 := Rows.below h1 hbx; replace hE := hE.below hbx; clear hbx) | (go_at_call 20; go_must (refine (sPathOk_any _ L _ h1).mono ?_); rintro e wx ⟨rfl, hbx⟩; replace hF := hF.below hbx; (try replace h1 := Rows.below h1 hbx); (try replace h2 := Rows.below h2 hbx); (try replace h3 := Rows.below h3 hbx); (try replace h4 := Rows.below h4 hbx); (try replace hG := hG.below hbx); (try replace hE := hE.below hbx); clear hbx))
        rw [hk]
        obtain ⟨wb, rfl⟩ : ∃ wb : World, wb = wx := ⟨_, rfl⟩
        have hQ := Fb.start wb
        have HV := Lib.hid h1
        have HE := Lib.hid hE
        have HC := Lib.hid (Ints.get h1 HX.out)
        have HF := Lib.hid hF
        have c0 := HC.out
        clear h1 hE hF hk
        go_region_held3 (fun w' => w'.cell? ⟨b, off + k, none⟩ = some (.int .i64 x)) (first | assumption | (exact Fb.old (w := wb) (L := []) (by repeat (first | assumption | apply Fb.alloc_1 | apply Fb.alloc_2 | apply Fb.alloc_3 | apply Fb.alloc_4 | apply Fb.alloc_5 | apply Fb.alloc_8 | apply Fb.drew | apply Fb.drewN | apply Fb.other)) HC.out))
          (first
            | (go_at_call 19; clear tok2; go_must (refine (iPathOk_any _ (L.drop k) a _ (ints_dropP (Rows.below HV.out (Fb.kp (W := wb) (L := []) (by repeat (first | assumption | apply Fb.alloc_1 | apply Fb.alloc_2 | apply Fb.alloc_3 | apply Fb.alloc_4 | apply Fb.alloc_5 | apply Fb.alloc_8 | apply Fb.drew | apply Fb.drewN | apply Fb.other)))) (by omega)) (HE.out.below (Fb.kp (W := wb) (L := []) (by repeat (first | assumption | apply Fb.alloc_1 | apply Fb.alloc_2 | apply Fb.alloc_3 | apply Fb.alloc_4 | apply Fb.alloc_5 | apply Fb.alloc_8 | apply Fb.drew | apply Fb.drewN | apply Fb.other))))).mono ?_); rintro e wx ⟨rfl, hbx⟩; replace hQ := Fb.below (W := wb) (L := []) (by repeat (first | assumption | apply Fb.alloc_1 | apply Fb.alloc_2 | apply Fb.alloc_3 | apply Fb.alloc_4 | apply Fb.alloc_5 | apply Fb.alloc_8 | apply Fb.drew | apply Fb.drewN | apply Fb.other)) hbx; clear hbx)
            | (go_at_call 19; clear tok3; go_must (refine (iPathOk_any _ (L.take k) a _ (ints_takeP (Rows.below HV.out (Fb.kp (W := wb) (L := []) (by repeat (first | assumption | apply Fb.alloc_1 | apply Fb.alloc_2 | apply Fb.alloc_3 | apply Fb.alloc_4 | apply Fb.alloc_5 | apply Fb.alloc_8 | apply Fb.drew | apply Fb.drewN | apply Fb.other)))) (by omega)) (HE.out.below (Fb.kp (W := wb) (L := []) (by repeat (first | assumption | apply Fb.alloc_1 | apply Fb.alloc_2 | apply Fb.alloc_3 | apply Fb.alloc_4 | apply Fb.alloc_5 | apply Fb.alloc_8 | apply Fb.drew | apply Fb.drewN | apply Fb.other))))).mono ?_); rintro e wx ⟨rfl, hbx⟩; replace hQ := Fb.below (W := wb) (L := []) (by repeat (first | assumption | apply Fb.alloc_1 | apply Fb.alloc_2 | apply Fb.alloc_3 | apply Fb.alloc_4 | apply Fb.alloc_5 | apply Fb.alloc_8 | apply Fb.drew | apply Fb.drewN | apply Fb.other)) hbx; clear hbx)
            | (clear tok4; refine step_apps (by rfl) _ _ 27 (by rfl) 3 (.int .i64 0) 1 8 Tryd.underlying27 infoInt rfl (by decide) (by decide) wb.heap.size encI (fun _ => rfl) one_enc (.slice (some ⟨_, 0, none⟩) 0 0) [] (by rfl) (by repeat (first | assumption | exact Own.made' _ _ _ _ _ _ (by simp) (Below.size (Fb.kp (W := wb) (L := []) (by repeat (first | assumption | apply Fb.alloc_1 | apply Fb.alloc_2 | apply Fb.alloc_3 | apply Fb.alloc_4 | apply Fb.alloc_5 | apply Fb.alloc_8 | apply Fb.drew | apply Fb.drewN | apply Fb.other)))) | apply Own.alloc | apply Own.drew)) b off n c L (by rfl) (Rows.below HV.out (Fb.kp (W := wb) (L := []) (by repeat (first | assumption | apply Fb.alloc_1 | apply Fb.alloc_2 | apply Fb.alloc_3 | apply Fb.alloc_4 | apply Fb.alloc_5 | apply Fb.alloc_8 | apply Fb.drew | apply Fb.drewN | apply Fb.other)))) (by simp; omega) (Below.size (Fb.kp (W := wb) (L := []) (by repeat (first | assumption | apply Fb.alloc_1 | apply Fb.alloc_2 | apply Fb.alloc_3 | apply Fb.alloc_4 | apply Fb.alloc_5 | apply Fb.alloc_8 | apply Fb.drew | apply Fb.drewN | apply Fb.other)))) ?_; intro v9 w9 hO9 hg9 hb9 hf9; rw [List.nil_append] at hO9; have hGR := Lib.hid (fun (g : Nat) h1 h2 => hg9.cell (a := ⟨g, 0, none⟩) (v := .int .i64 x) h1 h2); replace hQ := Fb.belowB (W := wb) (L := []) (by repeat (first | assumption | apply Fb.alloc_1 | apply Fb.alloc_2 | apply Fb.alloc_3 | apply Fb.alloc_4 | apply Fb.alloc_5 | apply Fb.alloc_8 | apply Fb.drew | apply Fb.drewN | apply Fb.other)) hb9 (Nat.le_refl _) (by simp); clear hg9 hb9 hf9)
            | (clear tok5; refine step_app1 (by rfl) _ _ 27 (by rfl) 3 (.int .i64 0) 1 8 Tryd.underlying27 infoInt rfl (by decide) (by decide) wb.heap.size encI _ L (by rfl) (by repeat (first | assumption | exact Own.made' _ _ _ _ _ _ (by simp) (Below.size (Fb.kp (W := wb) (L := []) (by repeat (first | assumption | apply Fb.alloc_1 | apply Fb.alloc_2 | apply Fb.alloc_3 | apply Fb.alloc_4 | apply Fb.alloc_5 | apply Fb.alloc_8 | apply Fb.drew | apply Fb.drewN | apply Fb.other)))) | apply Own.alloc | apply Own.drew)) x ⟨_, 0, none⟩ 1 (by rfl) rfl (by first | exact cells_new _ _ _ | exact cells_newD _ _ _ | (refine one_cell (hGR.out _ ?_ ?_); (· simp); (· intro e; have e2 := Option.some.inj e; dsimp only at e2; omega))) (one_enc x) (by rw [HN.out]; omega) (Below.size (Fb.kp (W := wb) (L := []) (by repeat (first | assumption | apply Fb.alloc_1 | apply Fb.alloc_2 | apply Fb.alloc_3 | apply Fb.alloc_4 | apply Fb.alloc_5 | apply Fb.alloc_8 | apply Fb.drew | apply Fb.drewN | apply Fb.other)))) ?_; intro v8 w8 hO8 hg8 hb8 hf8; replace hQ := Fb.belowB (W := wb) (L := []) (by repeat (first | assumption | apply Fb.alloc_1 | apply Fb.alloc_2 | apply Fb.alloc_3 | apply Fb.alloc_4 | apply Fb.alloc_5 | apply Fb.alloc_8 | apply Fb.drew | apply Fb.drewN | apply Fb.other)) hb8 (Nat.le_refl _) (by simp); have hR8 := hO8.ints; clear hg8 hb8 hf8 hO8)
            | (go_at_call 19; clear tok6; go_must (refine (iPathOk_any _ (L ++ [x]) a _ hR8 (HE.out.below (Fb.kp (W := wb) (L := []) (by repeat (first | assumption | apply Fb.alloc_1 | apply Fb.alloc_2 | apply Fb.alloc_3 | apply Fb.alloc_4 | apply Fb.alloc_5 | apply Fb.alloc_8 | apply Fb.drew | apply Fb.drewN | apply Fb.other))))).mono ?_); rintro e wx ⟨rfl, hbx⟩; replace hQ := Fb.below (W := wb) (L := []) (by repeat (first | assumption | apply Fb.alloc_1 | apply Fb.alloc_2 | apply Fb.alloc_3 | apply Fb.alloc_4 | apply Fb.alloc_5 | apply Fb.alloc_8 | apply Fb.drew | apply Fb.drewN | apply Fb.other)) hbx; clear hbx)
            | (go_at_call 19; clear tok7; go_must (refine (iPathOk_any _ [0] a _ (by repeat (first | exact lit0 _ | apply Rows.drew)) (HE.out.below (Fb.kp (W := wb) (L := []) (by repeat (first | assumption | apply Fb.alloc_1 | apply Fb.alloc_2 | apply Fb.alloc_3 | apply Fb.alloc_4 | apply Fb.alloc_5 | apply Fb.alloc_8 | apply Fb.drew | apply Fb.drewN | apply Fb.other))))).mono ?_); rintro e wx ⟨rfl, hbx⟩; replace hQ := Fb.below (W := wb) (L := []) (by repeat (first | assumption | apply Fb.alloc_1 | apply Fb.alloc_2 | apply Fb.alloc_3 | apply Fb.alloc_4 | apply Fb.alloc_5 | apply Fb.alloc_8 | apply Fb.drew | apply Fb.drewN | apply Fb.other)) hbx; clear hbx))
        all_goals go_wp2
        all_goals go_ret
        all_goals exact ⟨rfl, (HF.out.below hQ.kp).kp⟩
  · have d1 : decide (POk L) = false := by simp [hp]
    obtain ⟨ao, cap, rfl, -⟩ := h1.ex
    clear hp hV
    go_wp2_with (first | (go_at_call 19; go_must (refine (iPathOk_any _ L a _ h1 hE).mono ?_); rintro e wx ⟨rfl, hbx⟩; replace hF := hF.below hbx; (try replace h1 := Rows.below h1 hbx); (try replace h2 := Rows.below h2 hbx); (try replace h3 := Rows.below h3 hbx); (try replace h4 := Rows.below h4 hbx); (try replace hG := hG.below hbx); (try replace hE := hE.below hbx); clear hbx) | (go_at_call 20; go_must (refine (sPathOk_any _ L _ h1).mono ?_); rintro e wx ⟨rfl, hbx⟩; replace hF := hF.below hbx; (try replace h1 := Rows.below h1 hbx); (try replace h2 := Rows.below h2 hbx); (try replace h3 := Rows.below h3 hbx); (try replace h4 := Rows.below h4 hbx); (try replace hG := hG.below hbx); (try replace hE := hE.below hbx); clear hbx))
    go_ret
    exact ⟨rfl, hF.kp⟩
end Go.Proofs.YtgegmampnpgcaaaDoor
