/- slices.Grow, slices.Concat of two rows of numbers. -/
import Derived.Test.YtgegmampnpgcaaaDoorEf
import Derived.Lib.AppendZerosOnto
import Derived.Shelf.Spec.SlicesInsert
set_option linter.unusedSimpArgs false
set_option linter.unusedVariables false
namespace Go.Proofs.YtgegmampnpgcaaaDoor
open Go.RowKit

theorem ownOfI {E : TypeId} {w : World} {B n c g : Nat} {cur : Array Value} {T : List Int} (hB : B ≤ g) (h1 : w.heap[g]? = some (.cells cur E (0, 0))) (h2 : T.length = n) (h3 : n ≤ c) (h4 : c ≤ maxLen) (h5 : cur.size = c * 1) (h6 : cur.toList.take (n * 1) = T.flatMap encI) : Own E w B (.slice (some ⟨g, 0, none⟩) n c) 1 encI T :=
  ⟨flat_len (enc := encI) (fun _ => rfl) T, Or.inr ⟨g, c, cur, by rw [h2], hB, h1, by omega, h4, h5, by rw [h2]; exact h6⟩⟩
set_option maxHeartbeats 2000000 in
theorem GrowI_any (n : Nat) (w : World) (hn : n ≤ 100) :
    Calls Tryd.prog 83 #[.slice none 0 0, .int .i64 n] w fun e w' => ∃ u, e = .returned u ∧ Own 3 w' w.heap.size u 1 encI [] ∧ Below w.heap.size w w' := by
  by_cases h0 : n = 0
  · subst h0
    go_enter Tryd.func83, Tryd.ntmps83
    go_wp2
    go_ret
    exact ⟨_, rfl, Own.nil _ _ _ _ _, Below.refl _ _⟩
  · obtain ⟨i0, hi0, hz0, hzs, hzb⟩ := info_parts infoInt
    obtain ⟨G, hG⟩ : ∃ G, G = grownCap w n 0 3 := ⟨_, rfl⟩
    have hGn : n ≤ G := by rw [hG]; exact grownCap_ge w _ _ _
    have hGm : G ≤ maxLen := by rw [hG]; exact grownCap_le_maxLen w n 0 3 (by unfold maxLen; omega)
    have hG63 : G ≤ 9223372036854775807 := by unfold maxLen at hGm; omega
    obtain ⟨cur0, hc0⟩ : ∃ cur0 : Array Value, cur0 = Builtin.zeroCells (Value.int .i64 0).cells n ++ Builtin.zeroCells (Value.int .i64 0).cells (G - n) := ⟨_, rfl⟩
    have hc0l : cur0.size = G * 1 := by
      rw [hc0]
      simp only [Array.size_append, size_zeroCells, Value.cells]
      show n * 1 + (G - n) * 1 = G * 1
      omega
    have hrz : ∀ ty, (Builtin.append_ #[27, 3] ty #[.slice none 0 0, .int .i64 (n : Int)]).run Tryd.prog w = .ok (.slice (some ⟨w.heap.size, 0, none⟩) n G) (w.drew.alloc (.cells cur0 3)) := fun ty => by
      have h := Lib.run_append_nil_zeros w 27 3 ty 3 i0 _ .i64 .i64 Tryd.underlying27 Tryd.underlying3 hi0 hz0 n (by omega) (by omega) (by omega) (by rw [hzb]; omega)
      rw [← hG, ← hc0] at h
      exact h
    have hFin : Hid (Own 3 (w.drew.alloc (.cells cur0 3)) w.heap.size (.slice (some ⟨w.heap.size, 0, none⟩) 0 G) 1 encI []) := ownOfI (Nat.le_refl _) (heap_alloc_new w.drew _) rfl (by omega) hGm hc0l (by simp)
    have h1 : ¬ ((n : Int) < 0) := by omega
    have h4 : (n : Int) > 0 := by omega
    clear hG hc0 hc0l hi0 hz0 hzs hzb
    go_enter Tryd.func83, Tryd.ntmps83
    go_wp2_with (at_builtin; refine Lib.wpList_append_run _ rfl _ _ _ _ rfl _ _ rfl rfl _ _ (hrz _) ?_)
    go_ret
    exact ⟨_, rfl, hFin.out, (Below.refl _ _).drew.alloc (Nat.le_refl _) _⟩
set_option maxHeartbeats 2000000 in
theorem ConcatI_any (g b1 o1 n1 c1 n2 c2 : Nat) (ao2 : Option Addr) (K L : List Int) (w : World) (hc : w.cell? ⟨g, 0, none⟩ = some (.slice (some ⟨b1, o1, none⟩) n1 c1) ∧ w.cell? ⟨g, 1, none⟩ = some (.slice ao2 n2 c2)) (h1 : Ints w (.slice (some ⟨b1, o1, none⟩) n1 c1) K) (h2 : Ints w (.slice ao2 n2 c2) L) (h3 : ao2 = none ∧ n2 = 0 ∨ ∃ b2 o2, ao2 = some ⟨b2, o2, none⟩) (hn1 : n1 ≤ 40) (hn2 : n2 ≤ 40) :
    Calls Tryd.prog 58 #[.slice (some ⟨g, 0, none⟩) 2 2] w fun e w' => ∃ u, e = .returned u ∧ Own 3 w' w.heap.size u 1 encI (K ++ L) ∧ Below w.heap.size w w' := by
  have HC := Lib.hid hc
  have H1 := Lib.hid h1
  have H2 := Lib.hid h2
  have hK : Hid (K.length = n1) := by obtain ⟨ao, cap, e, _⟩ := h1.ex; injection e with _ e; exact e.symm
  have hL : Hid (L.length = n2) := by obtain ⟨ao, cap, e, _⟩ := h2.ex; injection e with _ e; exact e.symm
  clear hc h1 h2
  go_enter Tryd.func58, Tryd.ntmps58
  go_wp2
  go_loopw [3, 11] (fun s3 s11 wr => wr = w ∧ ((s3 = .int .i64 0 ∧ s11 = .int .i64 0) ∨ (s3 = .int .i64 n1 ∧ s11 = .int .i64 1) ∨ (s3 = .int .i64 ((n1 + n2 : Nat) : Int) ∧ s11 = .int .i64 2))) (fun _ s11 _ => 2 - (intOf s11).toNat)
  case atStart => exact ⟨rfl, Or.inl ⟨rfl, rfl⟩⟩
  case round =>
    obtain ⟨rfl, ⟨rfl, rfl⟩ | ⟨rfl, rfl⟩ | ⟨rfl, rfl⟩⟩ := hrel
    · have e0 := HC.out.1
      go_wp2
      go_roundw
      case rel => exact ⟨by first | rfl | trivial, Or.inr (Or.inl ⟨by go_num, rfl⟩)⟩
      case measure => simp [intOf]
    · have e1 := HC.out.2
      have hz : ¬ ((n1 : Int) + (n2 : Int) < 0) := by omega
      go_wp2
      go_roundw
      case rel => exact ⟨by first | rfl | trivial, Or.inr (Or.inr ⟨by go_num, rfl⟩)⟩
      case measure => simp [intOf]
    · obtain ⟨W, rfl⟩ : ∃ W : World, W = wr := ⟨_, rfl⟩
      have hF := Fb.start W
      go_wp2_with fail
      refine (GrowI_any (n1 + n2) _ (by omega)).mono ?_; rintro e wa ⟨u, rfl, hO, hb⟩
      have hF := Fb.belowB hF hb (Nat.le_refl _) (by simp)
      clear hb
      go_wp2
      go_loopw [6, 27] (fun s6 s27 wq => ∃ (i : Nat) (R : List Int), s27 = .int .i64 i ∧ Own 3 wq W.heap.size s6 1 encI R ∧ Fb W wq [] ∧ ((i = 0 ∧ R = []) ∨ (i = 1 ∧ R = K) ∨ (i = 2 ∧ R = K ++ L))) (fun _ s27 _ => 2 - (intOf s27).toNat)
      case atStart => exact ⟨0, [], rfl, hO, hF, Or.inl ⟨rfl, rfl⟩⟩
      case round =>
        clear hO hF
        obtain ⟨i, R, rfl, hO, hF, ⟨rfl, rfl⟩ | ⟨rfl, rfl⟩ | ⟨rfl, rfl⟩⟩ := hrel
        · have e0 := hF.old HC.out.1
          go_wp2_with (at_builtin; refine wpList_apps rfl _ _ 27 rfl 3 (.int .i64 0) 1 8 Tryd.underlying27 infoInt rfl (by decide) (by decide) W.heap.size encI (fun _ => rfl) (fun _ u hu => by simp [encI] at hu; subst hu; rfl) _ [] rfl hO b1 o1 n1 c1 K rfl (H1.out.below hF.kp) (by simp; omega) hF.kp.size ?_; intro v' wx hO1 hg1 hb1 hf1 hz1; replace hF := hF.belowB hb1 (Nat.le_refl _) (by simp); replace hO := hO1; clear hO1 hg1 hb1 hf1 hz1 e0)
          go_roundw
          case rel => exact ⟨1, K, by go_num, hO, hF, Or.inr (Or.inl ⟨rfl, rfl⟩)⟩
          case measure => simp [intOf]
        · have e1 := hF.old HC.out.2
          rcases h3 with ⟨rfl, rfl⟩ | ⟨b2, o2, rfl⟩
          · have hL0 : Hid (L = []) := List.length_eq_zero_iff.1 hL.out
            have hr : Hid (R ++ L = R) := by show _ = _; rw [hL0.out, List.append_nil]
            rcases hO.two with ⟨rfl, hR0⟩ | ⟨g2, c3, n3, rfl, hn3⟩
            all_goals
              go_wp2
              go_roundw
              case rel => exact ⟨2, R, by go_num, hO, hF, Or.inr (Or.inr ⟨rfl, hr.out.symm⟩)⟩
              case measure => simp [intOf]
          · go_wp2_with (at_builtin; refine wpList_apps rfl _ _ 27 rfl 3 (.int .i64 0) 1 8 Tryd.underlying27 infoInt rfl (by decide) (by decide) W.heap.size encI (fun _ => rfl) (fun _ u hu => by simp [encI] at hu; subst hu; rfl) _ R rfl hO b2 o2 n2 c2 L rfl (H2.out.below hF.kp) (by have := hK.out; omega) hF.kp.size ?_; intro v' wx hO1 hg1 hb1 hf1 hz1; replace hF := hF.belowB hb1 (Nat.le_refl _) (by simp); replace hO := hO1; clear hO1 hg1 hb1 hf1 hz1 e1)
            go_roundw
            case rel => exact ⟨2, R ++ L, by go_num, hO, hF, Or.inr (Or.inr ⟨rfl, rfl⟩)⟩
            case measure => simp [intOf]
        · go_wp2
          go_ret
          exact ⟨_, rfl, hO, hF.kp⟩
end Go.Proofs.YtgegmampnpgcaaaDoor
