/- A house put ahead of a path. -/
import Derived.Test.YtgegmampnpgcaaaDoorCn
set_option linter.unusedSimpArgs false
set_option linter.unusedVariables false
namespace Go.Proofs.YtgegmampnpgcaaaDoor
open Go.RowKit

def PAdd (L : List Int) (h : Int) : Prop := POk L ∧ Bts h 1 5 ∧ h ∉ L
instance (L : List Int) (h : Int) : Decidable (PAdd L h) := by unfold PAdd; infer_instance
def padd (L : List Int) (h : Int) : List Int := if PAdd L h then h :: L else []
theorem ints_lit (w : World) (h : Int) : Ints (w.alloc (.cells #[.int .i64 h] 3)) (.slice (some ⟨w.heap.size, 0, none⟩) 1 1) [h] := (Own.lit 3 w w.heap.size 1 encI [h] (fun _ => rfl) (Nat.le_refl _) (by simp)).rows (fun _ => rfl)
theorem concat_two (h : Int) (ao : Option Addr) (n c : Nat) (L : List Int) (w : World) (hI : Ints w (.slice ao n c) L) (h3 : ao = none ∧ n = 0 ∨ ∃ b o, ao = some ⟨b, o, none⟩) (hn : n ≤ 40) :
    Calls Tryd.prog 58 #[.slice (some ⟨w.heap.size + 1, 0, none⟩) 2 2] ((w.alloc (.cells #[.int .i64 h] 3)).alloc (.cells #[.slice (some ⟨w.heap.size, 0, none⟩) 1 1, .slice ao n c] 27)) fun e w' => ∃ u, e = .returned u ∧ Own 3 w' w.heap.size u 1 encI (h :: L) ∧ Below w.heap.size w w' := by
  have k0 := cell_new2a (w.alloc (.cells #[.int .i64 h] 3)) (.slice (some ⟨w.heap.size, 0, none⟩) 1 1) (.slice ao n c) 27
  have k1 := cell_new2b (w.alloc (.cells #[.int .i64 h] 3)) (.slice (some ⟨w.heap.size, 0, none⟩) 1 1) (.slice ao n c) 27
  rw [World.size_alloc] at k0 k1
  have hb : Below w.heap.size w ((w.alloc (.cells #[.int .i64 h] 3)).alloc (.cells #[.slice (some ⟨w.heap.size, 0, none⟩) 1 1, .slice ao n c] 27)) := ((Below.refl _ _).alloc (Nat.le_refl _) _).alloc (by simp) _
  refine (ConcatI_any (w.heap.size + 1) w.heap.size 0 1 1 n c ao [h] L _ ⟨k0, k1⟩ ((ints_lit w h).alloc _) (Rows.below hI hb) h3 (by omega) hn).mono ?_
  rintro e w' ⟨u, rfl, hO, hb2⟩
  exact ⟨u, rfl, hO.base (by simp; omega), hb.trans (hb2.mono hb.size)⟩
set_option maxHeartbeats 1000000 in
theorem iPathAdd_any (v : Value) (L : List Int) (h : Int) (a : Addr) (w : World) (hv : It w v L) (hE : EPath w a) :
    Calls Tryd.prog 24 #[v, .int .i64 h] w fun e w' => ∃ u, e = .returned (.tuple #[u, .bool (decide (PAdd L h))]) ∧ Own 3 w' w.heap.size u 1 encI (padd L h) ∧ Below w.heap.size w w' := by
  have HE := Lib.hid hE
  obtain ⟨ao, cap, rfl, -⟩ := hv.1.ex
  have hao : Hid (ao = none ∧ L.length = 0 ∨ ∃ b o, ao = some ⟨b, o, none⟩) := by
    rcases hv.2 with e | ⟨b, o, n, c, e⟩
    · injection e with e1 e2; exact Or.inl ⟨e1, e2⟩
    · injection e with e1; exact Or.inr ⟨b, o, e1⟩
  have HV := Lib.hid hv.1
  go_enter Tryd.func24, Tryd.ntmps24
  go_wp2_with fail
  refine (readTrail_any _ L a _ hv.1 hE).mono ?_; rintro e w1 ⟨⟨hp, rfl⟩ | ⟨hp, u, rfl, hJ⟩, hb1⟩
  all_goals
    clear hE hv
    have hEa := EPath.allocd (HE.out.below hb1)
  · have hl5 := pok_len hp
    have hB := hb1.alloc hb1.size (.cells #[.int .u64 (msk L), .slice ao L.length cap] 65)
    by_cases d1 : Bts h 1 5
    · have e1 : decide (Bts h 1 5) = true := by simp [d1]
      by_cases d2 : h ∈ L
      · have e2 : decide (h ∈ L) = true := by simp [d2]
        have hr : Hid (decide (PAdd L h) = false ∧ padd L h = []) := ⟨decide_eq_false fun g => g.2.2 d2, if_neg fun g => g.2.2 d2⟩
        clear d1 d2 hp
        go_wp2_with (first | (go_at_call 49; refine (is_nil _ _).mono ?_; rintro e w2 ⟨rfl, rfl⟩) | (go_at_call 57; refine (isHouse_any _ _).mono ?_; rintro e w2 ⟨rfl, hb2⟩; have k0 := (hb2.cell (by simp)).trans (cell_new2a w1 (.int .u64 (msk L)) (.slice ao L.length cap) 65); have k1 := (hb2.cell (by simp)).trans (cell_new2b w1 (.int .u64 (msk L)) (.slice ao L.length cap) 65)) | (go_at_call 50; refine (has_any L h _ _).mono ?_; rintro e w3 ⟨rfl, hb3⟩))
        go_ret2
        have hB3 := hB.trans (hb2.mono hB.size)
        exact ⟨_, by rw [hr.out.1]; rfl, by rw [hr.out.2]; exact Own.nil _ _ _ _ _, hB3.trans (hb3.mono hB3.size)⟩
      · have e2 : decide (h ∈ L) = false := by simp [d2]
        have hr : Hid (decide (PAdd L h) = true ∧ padd L h = h :: L) := ⟨decide_eq_true ⟨hp, d1, d2⟩, if_pos ⟨hp, d1, d2⟩⟩
        clear d1 d2 hp
        go_wp2_with (first | (go_at_call 49; refine (is_nil _ _).mono ?_; rintro e w2 ⟨rfl, rfl⟩) | (go_at_call 57; refine (isHouse_any _ _).mono ?_; rintro e w2 ⟨rfl, hb2⟩; have k0 := (hb2.cell (by simp)).trans (cell_new2a w1 (.int .u64 (msk L)) (.slice ao L.length cap) 65); have k1 := (hb2.cell (by simp)).trans (cell_new2b w1 (.int .u64 (msk L)) (.slice ao L.length cap) 65)) | (go_at_call 50; refine (has_any L h _ _).mono ?_; rintro e w3 ⟨rfl, hb3⟩; have hB3 := (hB.trans (hb2.mono hB.size)).trans (hb3.mono (hB.trans (hb2.mono hB.size)).size); have hI := Rows.below HV.out hB3) | (go_at_call 58; refine (concat_two h ao L.length cap L _ hI hao.out (by omega)).mono ?_; rintro e w4 ⟨u, rfl, hO, hb4⟩))
        go_ret2
        exact ⟨_, by rw [hr.out.1]; rfl, by rw [hr.out.2]; exact hO.base hB3.size, hB3.trans (hb4.mono hB3.size)⟩
    · have e1 : decide (Bts h 1 5) = false := by simp [d1]
      have hr : Hid (decide (PAdd L h) = false ∧ padd L h = []) := ⟨decide_eq_false fun g => d1 g.2.1, if_neg fun g => d1 g.2.1⟩
      clear d1 hp
      go_wp2_with (first | (go_at_call 49; refine (is_nil _ _).mono ?_; rintro e w2 ⟨rfl, rfl⟩) | (go_at_call 57; refine (isHouse_any _ _).mono ?_; rintro e w2 ⟨rfl, hb2⟩))
      go_ret2
      exact ⟨_, by rw [hr.out.1]; rfl, by rw [hr.out.2]; exact Own.nil _ _ _ _ _, hB.trans (hb2.mono hB.size)⟩
  · have hr : Hid (decide (PAdd L h) = false ∧ padd L h = []) := ⟨decide_eq_false fun g => hp g.1, if_neg fun g => hp g.1⟩
    have hJa := fun o => hJ.below ((Below.refl _ _).alloc (Nat.le_refl _) o)
    clear hp
    go_wp2_with (go_at_call 49; refine (is_joined _ _ _ (hJa _)).mono ?_; rintro e w2 ⟨rfl, rfl⟩)
    go_ret2
    exact ⟨_, by rw [hr.out.1]; rfl, by rw [hr.out.2]; exact Own.nil _ _ _ _ _, hb1.alloc hb1.size _⟩
end Go.Proofs.YtgegmampnpgcaaaDoor
