/- Tables: slices.Grow, slices.Concat of two rows; the program's TableDrop. -/
import Derived.Test.YtbhenfegklgkoaaTu
set_option linter.unusedSimpArgs false
set_option linter.unusedVariables false
namespace Go.Proofs.Ytbhenfegklgkoaa
open Go.RowKit

set_option maxHeartbeats 2000000 in
theorem Grow_any (n : Nat) (w : World) (hn : n ≤ 100) :
    Calls Try.prog 75 #[.slice none 0 0, .int .i64 n] w fun e w' => ∃ u, e = .returned u ∧ Own 29 w' w.heap.size u 3 encE [] ∧ Below w.heap.size w w' := by
  by_cases h0 : n = 0
  · subst h0
    go_enter Try.func75, Try.ntmps75
    go_wp2
    go_ret
    exact ⟨_, rfl, Own.nil _ _ _ _ _, Below.refl _ _⟩
  · obtain ⟨i0, hi0, hz0, hzs, hzb⟩ := info_parts infoEnt
    obtain ⟨G, hG⟩ : ∃ G, G = grownCap w n 0 29 := ⟨_, rfl⟩
    have hGn : n ≤ G := by rw [hG]; exact grownCap_ge w _ _ _
    have hGm : G ≤ maxLen := by rw [hG]; exact grownCap_le_maxLen w n 0 29 (by unfold maxLen; omega)
    have hG63 : G ≤ 9223372036854775807 := by unfold maxLen at hGm; omega
    obtain ⟨cur0, hc0⟩ : ∃ cur0 : Array Value, cur0 = Builtin.zeroCells (Value.agg #[.int .i64 0, .int .i64 0, .int .i64 0]).cells n ++ Builtin.zeroCells (Value.agg #[.int .i64 0, .int .i64 0, .int .i64 0]).cells (G - n) := ⟨_, rfl⟩
    have hc0l : cur0.size = G * 3 := by
      rw [hc0]
      simp only [Array.size_append, size_zeroCells, Value.cells]
      show n * 3 + (G - n) * 3 = G * 3
      omega
    have hrz : ∀ ty, (Builtin.append_ #[23, 3] ty #[.slice none 0 0, .int .i64 (n : Int)]).run Try.prog w = .ok (.slice (some ⟨w.heap.size, 0, none⟩) n G) (w.drew.alloc (.cells cur0 29)) := fun ty => by
      have h := Lib.run_append_nil_zeros w 23 3 ty 29 i0 _ .i64 .i64 Try.underlying23 Try.underlying3 hi0 hz0 n (by omega) (by omega) (by omega) (by rw [hzb]; omega)
      rw [← hG, ← hc0] at h
      exact h
    have hFin : Hid (Own 29 (w.drew.alloc (.cells cur0 29)) w.heap.size (.slice (some ⟨w.heap.size, 0, none⟩) 0 G) 3 encE []) := ownOf (Nat.le_refl _) (heap_alloc_new w.drew _) rfl (by omega) hGm hc0l (by simp)
    have h1 : ¬ ((n : Int) < 0) := by omega
    have h4 : (n : Int) > 0 := by omega
    clear hG hc0 hc0l hi0 hz0 hzs hzb
    go_enter Try.func75, Try.ntmps75
    go_wp2_with (at_builtin; refine Lib.wpList_append_run _ rfl _ _ _ _ rfl _ _ rfl rfl _ _ (hrz _) ?_)
    go_ret
    exact ⟨_, rfl, hFin.out, (Below.refl _ _).drew.alloc (Nat.le_refl _) _⟩
set_option maxHeartbeats 2000000 in
theorem Concat_any (g b1 o1 n1 c1 b2 o2 n2 c2 : Nat) (K L : List Ent) (w : World) (hc : w.cell? ⟨g, 0, none⟩ = some (.slice (some ⟨b1, o1, none⟩) n1 c1) ∧ w.cell? ⟨g, 1, none⟩ = some (.slice (some ⟨b2, o2, none⟩) n2 c2)) (h1 : Ents w (.slice (some ⟨b1, o1, none⟩) n1 c1) K) (h2 : Ents w (.slice (some ⟨b2, o2, none⟩) n2 c2) L) (hn1 : n1 ≤ 40) (hn2 : n2 ≤ 40) :
    Calls Try.prog 62 #[.slice (some ⟨g, 0, none⟩) 2 2] w fun e w' => ∃ u, e = .returned u ∧ Own 29 w' w.heap.size u 3 encE (K ++ L) ∧ Below w.heap.size w w' := by
  have HC := Lib.hid hc
  have H1 := Lib.hid h1
  have H2 := Lib.hid h2
  have hK : Hid (K.length = n1) := by obtain ⟨ao, cap, e, _⟩ := h1.ex; injection e with _ e; exact e.symm
  have hL : Hid (L.length = n2) := by obtain ⟨ao, cap, e, _⟩ := h2.ex; injection e with _ e; exact e.symm
  clear hc h1 h2
  go_enter Try.func62, Try.ntmps62
  go_wp2
  go_loopw [3, 11] (fun s3 s11 wr => wr = w ∧ ((s3 = .int .i64 0 ∧ s11 = .int .i64 0) ∨ (s3 = .int .i64 n1 ∧ s11 = .int .i64 1) ∨ (s3 = .int .i64 ((n1 + n2 : Nat) : Int) ∧ s11 = .int .i64 2))) (fun _ s11 _ => 2 - (intOf s11).toNat)
  case atStart => exact ⟨rfl, Or.inl ⟨rfl, rfl⟩⟩
  case round =>
    obtain ⟨rfl, ⟨rfl, rfl⟩ | ⟨rfl, rfl⟩ | ⟨rfl, rfl⟩⟩ := hrel
    · have e0 := HC.out.1
      go_wp2
      go_roundw
      case rel => exact ⟨by first | rfl | trivial, Or.inr (Or.inl ⟨by go_num, rfl⟩)⟩
      case measure => simp [intOf]
    · have e1 := HC.out.2
      have hz : ¬ ((n1 : Int) + (n2 : Int) < 0) := by omega
      go_wp2
      go_roundw
      case rel => exact ⟨by first | rfl | trivial, Or.inr (Or.inr ⟨by go_num, rfl⟩)⟩
      case measure => simp [intOf]
    · obtain ⟨W, rfl⟩ : ∃ W : World, W = wr := ⟨_, rfl⟩
      have hF := Fb.start W
      go_wp2_with fail
      refine (Grow_any (n1 + n2) _ (by omega)).mono ?_; rintro e wa ⟨u, rfl, hO, hb⟩
      have hF := Fb.belowB hF hb (Nat.le_refl _) (by simp)
      clear hb
      go_wp2
      go_loopw [6, 27] (fun s6 s27 wq => ∃ (i : Nat) (R : List Ent), s27 = .int .i64 i ∧ Own 29 wq W.heap.size s6 3 encE R ∧ Fb W wq [] ∧ ((i = 0 ∧ R = []) ∨ (i = 1 ∧ R = K) ∨ (i = 2 ∧ R = K ++ L))) (fun _ s27 _ => 2 - (intOf s27).toNat)
      case atStart => exact ⟨0, [], rfl, hO, hF, Or.inl ⟨rfl, rfl⟩⟩
      case round =>
        clear hO hF
        obtain ⟨i, R, rfl, hO, hF, ⟨rfl, rfl⟩ | ⟨rfl, rfl⟩ | ⟨rfl, rfl⟩⟩ := hrel
        · have e0 := hF.old HC.out.1
          go_wp2_with (at_builtin; refine wpList_apps rfl _ _ 23 rfl 29 (.agg #[.int .i64 0, .int .i64 0, .int .i64 0]) 3 24 Try.underlying23 infoEnt rfl (by decide) (by decide) W.heap.size encE (fun _ => rfl) (fun _ u hu => by simp [encE] at hu; rcases hu with rfl | rfl | rfl <;> rfl) _ [] rfl hO b1 o1 n1 c1 K rfl (H1.out.below hF.kp) (by simp; omega) hF.kp.size ?_; intro v' wx hO1 hg1 hb1 hf1 hz1; replace hF := hF.belowB hb1 (Nat.le_refl _) (by simp); replace hO := hO1; clear hO1 hg1 hb1 hf1 hz1 e0)
          go_roundw
          case rel => exact ⟨1, K, by go_num, hO, hF, Or.inr (Or.inl ⟨rfl, rfl⟩)⟩
          case measure => simp [intOf]
        · have e1 := hF.old HC.out.2
          go_wp2_with (at_builtin; refine wpList_apps rfl _ _ 23 rfl 29 (.agg #[.int .i64 0, .int .i64 0, .int .i64 0]) 3 24 Try.underlying23 infoEnt rfl (by decide) (by decide) W.heap.size encE (fun _ => rfl) (fun _ u hu => by simp [encE] at hu; rcases hu with rfl | rfl | rfl <;> rfl) _ R rfl hO b2 o2 n2 c2 L rfl (H2.out.below hF.kp) (by have := hK.out; omega) hF.kp.size ?_; intro v' wx hO1 hg1 hb1 hf1 hz1; replace hF := hF.belowB hb1 (Nat.le_refl _) (by simp); replace hO := hO1; clear hO1 hg1 hb1 hf1 hz1 e1)
          go_roundw
          case rel => exact ⟨2, R ++ L, by go_num, hO, hF, Or.inr (Or.inr ⟨rfl, rfl⟩)⟩
          case measure => simp [intOf]
        · go_wp2
          go_ret
          exact ⟨_, rfl, hO, hF.kp⟩
end Go.Proofs.Ytbhenfegklgkoaa
