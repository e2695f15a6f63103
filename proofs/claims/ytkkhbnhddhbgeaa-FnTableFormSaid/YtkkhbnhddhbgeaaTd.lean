/- Tables drawn. -/
import Derived.Test.YtkkhbnhddhbgeaaTc
import Derived.Test.YtkkhbnhddhbgeaaDb
set_option linter.unusedSimpArgs false
set_option linter.unusedVariables false
namespace Go.Proofs.Ytkkhbnhddhbgeaa
open Go.RowKit

theorem Fr.drop {r : Nat} {W w : World} {L : List (Nat × List Value)} (h : Fr r W w L) : Fr r W w [] := ⟨h.kp, fun p hp => by cases hp⟩
set_option maxHeartbeats 4000000 in
theorem l91Table_any (r k : Nat) (w : World) (hR : Rd w r k) (hk : k ≤ 700000) :
    Calls Try.prog 50 #[.pointer (some ⟨r, 0, none⟩)] w fun e w' => ∃ (v : Value) (T : List Ent), e = .returned v ∧ Own 40 w' w.heap.size v 3 encE T ∧ v ≠ .slice none 0 0 ∧ T.length ≤ 20 ∧ (∃ k', k' ≤ k + 300 ∧ Rd w' r k') ∧ Kp r w w' := by
  have hr := hR.lt
  have hF := (Fr.start r w).other (.cells #[] 40)
  have hO : Own 40 (w.alloc (.cells #[] 40)) w.heap.size (.slice (some ⟨w.heap.size, 0, none⟩) 0 0) 3 encE [] := Own.made _ _ _ _ _ (Nat.le_refl _)
  replace hR := hR.alloc (.cells #[] 40)
  go_enter Try.func50, Try.ntmps50
  go_wp2_with ((go_at_call 45; go_must (refine (pick_any r _ _ _ hR (by omega) (by omega) (by omega)).mono ?_); rintro e wx ⟨vx, rfl, ux, lx, hRx, hKx⟩; replace hF := hF.call hKx; replace hR := hRx; (try replace hO := Own.kp hO hKx hr); have hsx := hKx.size; clear hRx hKx))
  obtain ⟨m0, rfl⟩ := Int.eq_ofNat_of_zero_le ux
  have hs0 : w.heap.size ≤ wx.heap.size := by simp only [World.size_alloc] at hsx; omega
  clear hsx
  go_loopw [3, 4] (fun s3 s4 wr => ∃ (m k' : Nat) (T : List Ent), s4 = .int .i64 m ∧ s3 ≠ .slice none 0 0 ∧ T.length + m ≤ 7 ∧ k' + 12 * m ≤ k + 90 ∧ Own 40 wr w.heap.size s3 3 encE T ∧ Rd wr r k' ∧ Fr r w wr [] ∧ w.heap.size ≤ wr.heap.size) (fun _ s4 _ => (intOf s4).toNat)
  case atStart => exact ⟨m0, k + 1, [], rfl, by simp, by simp; omega, by omega, hO, hR, hF, hs0⟩
  case round =>
    clear hF hR hO hs0
    obtain ⟨m, k', T, rfl, hne, hL, hk', hO, hR, hF, hsz⟩ := hrel
    by_cases hm : 0 < m
    · have hm' : 0 < (m : Int) := by omega
      obtain ⟨m', hm1, hm2⟩ : ∃ m', m' + 1 ≤ m ∧ m ≤ m' + 1 := ⟨m - 1, by omega, by omega⟩
      have hsub : (m : Int) - 1 = (m' : Int) := by omega
      have HN := Lib.hid hne
      clear hne
      go_wp2_with (first | (go_at_call 45; go_must (refine (pick_any r _ _ _ hR (by omega) (by omega) (by omega)).mono ?_); rintro e wx ⟨vx, rfl, ux, lx, hRx, hKx⟩; replace hF := hF.call hKx; replace hR := hRx; (try replace hO := Own.kp hO hKx hr); have hsx := hKx.size; clear hRx hKx) | (go_at_call 51; go_must (refine (l91Range_any r _ _ hR (by omega)).mono ?_); rintro e wx ⟨fx, bx, rfl, flx, fhx, blx, bhx, ⟨kx, hkx, hRx⟩, hKx⟩; replace hF := hF.call hKx; replace hR := hRx; (try replace hO := Own.kp hO hKx hr); have hsx := hKx.size; clear hRx hKx))
      have hs2 : w.heap.size ≤ wx.heap.size := by omega
      replace hF := hF.alloc [.int .i64 fx, .int .i64 bx, .int .i64 (1 + vx)] 40 hR.lt
      replace hR := hR.alloc (.cells #[.int .i64 fx, .int .i64 bx, .int .i64 (1 + vx)] 40)
      replace hO := hO.alloc (.cells #[.int .i64 fx, .int .i64 bx, .int .i64 (1 + vx)] 40)
      refine (l2Entry_any _ _ _ _).mono ?_; rintro e wy ⟨rfl, hby⟩
      replace hR := hR.below hby hR.lt
      replace hF := hF.below hby
      replace hO := hO.below hby
      have hsy := hby.size
      simp only [World.size_alloc] at hsy
      clear hby
      have o := hF.own; simp only [World.size_alloc, World.size_drew, World.size_setCell, List.mem_cons, List.not_mem_nil, or_false, forall_eq_or_imp, forall_eq, At, and_true, Nat.zero_add, Nat.reduceAdd, List.set_cons_zero, List.set_cons_succ] at o
      by_cases hE : EP3 fx bx (1 + vx)
      · have dE : decide (EP3 fx bx (1 + vx)) = true := by simp [hE]
        have hpl := Lib.hid (put_len T (fx, bx, 1 + vx))
        clear hE
        go_wp2_with ((go_at_call 71; go_must (refine (l2Put_any _ _ _ _ _ _ (Own.rows hO (fun _ => rfl)) (by omega)).mono ?_); rintro e wy ⟨u, rfl, hOn, hby⟩; replace hR := hR.below hby hR.lt; replace hF := hF.below hby; replace hO := hOn.base (B := w.heap.size) (by omega); have hsy := hby.size; clear hOn hby))
        have hne : Hid (u ≠ .slice none 0 0) := own_ne hO (put_pos _ _)
        have hF' := hF.drop
        go_roundw
        case rel => exact ⟨m', kx + 1, put T (fx, bx, 1 + vx), by go_num, hne.out, by have := hpl.out; omega, by omega, hO, hR, hF', by omega⟩
        case measure => simp [intOf]; omega
      · have dE : decide (EP3 fx bx (1 + vx)) = false := by simp [hE]
        clear hE
        have hF' := hF.drop
        go_wp2
        go_roundw
        case rel => exact ⟨m', kx + 1, T, by go_num, HN.out, by omega, by omega, hO, hR, hF', by omega⟩
        case measure => simp [intOf]; omega
    · obtain rfl : m = 0 := by omega
      have HN := Lib.hid hne
      clear hne
      go_wp2_with fail
      refine (pick_any r _ _ _ hR (by omega) (by omega) (by omega)).mono ?_; rintro e wx ⟨vx, rfl, ux, lx, hRx, hKx⟩
      replace hF := hF.call hKx
      replace hR := hRx
      (try replace hO := Own.kp hO hKx hr)
      have hsx := hKx.size
      clear hRx hKx
      by_cases h0 : vx = 0
      · subst h0
        go_wp2_with (first | (go_at_call 45; go_must (refine (pick_any r _ _ _ hR (by omega) (by omega) (by omega)).mono ?_); rintro e wx ⟨vx, rfl, ux, lx, hRx, hKx⟩; replace hF := hF.call hKx; replace hR := hRx; (try replace hO := Own.kp hO hKx hr); have hsx := hKx.size; clear hRx hKx) | (go_at_call 51; go_must (refine (l91Range_any r _ _ hR (by omega)).mono ?_); rintro e wx ⟨fx, bx, rfl, flx, fhx, blx, bhx, ⟨kx, hkx, hRx⟩, hKx⟩; replace hF := hF.call hKx; replace hR := hRx; (try replace hO := Own.kp hO hKx hr); have hsx := hKx.size; clear hRx hKx) | (at_builtin; refine wpList_app rfl _ _ 36 rfl 40 (.agg #[.int .i64 0, .int .i64 0, .int .i64 0]) 3 24 Try.underlying36 infoEnt rfl (by decide) (by decide) w.heap.size encE _ _ rfl (hO.alloc _) (((fx, bx, vx) : Ent)) ⟨_, 0, none⟩ 1 rfl rfl (cells_new _ _ _) (by simp [encE, Value.oneCell']) (by first | omega | (simp only [List.length_append, List.length_cons, List.length_nil]; omega)) (by simp only [World.size_alloc]; omega) ?_; intro v' wx hO1 hg1 hb1 hf1; (have hsz9 := hb1.size; simp only [World.size_alloc] at hsz9; replace hO := hO1; replace hR := (hR.alloc _).below hb1 hr; replace hF := (hF.other _).belowB hb1 (Nat.le_refl _) (by simp); clear hO1 hg1 hb1 hf1)))
        go_ret
        exact ⟨_, T ++ [(fx, bx, vx)], rfl, hO, own_ne hO (by simp), by simp; omega, ⟨_, by omega, hR⟩, hF.kp⟩
      · have e0 : (vx == 0) = false := by simp [h0]
        by_cases h1 : vx = 1
        · subst h1
          clear h0 e0
          go_wp2
          have hs0 : w.heap.size ≤ wx.heap.size := by omega
          clear hsx hsz
          go_loopw [3, 6] (fun s3 s6 wr => ∃ (i k2 : Nat) (T : List Ent), s6 = .int .i64 i ∧ i ≤ 32 ∧ s3 ≠ .slice none 0 0 ∧ T.length ≤ 12 ∧ k2 ≤ k + 100 + i ∧ Own 40 wr w.heap.size s3 3 encE T ∧ Rd wr r k2 ∧ Fr r w wr [] ∧ w.heap.size ≤ wr.heap.size) (fun _ s6 _ => 33 - (intOf s6).toNat)
          case atStart => exact ⟨0, k' + 1, T, rfl, by omega, HN.out, by omega, by omega, hO, hR, hF, hs0⟩
          case round =>
            clear hF hR hO hs0 HN hL hk'
            obtain ⟨i, k2, T, rfl, hi, hne, hL, hk2, hO, hR, hF, hsz⟩ := hrel
            obtain ⟨al, cl, hsl⟩ := hO.sl
            subst hsl
            obtain ⟨t, ht⟩ : ∃ t, Hid (T.length = t) := ⟨_, rfl⟩
            rw [ht.out] at hO hL hne ⊢
            have HN := Lib.hid hne
            clear hne
            by_cases hg : i < 32 ∧ t < 12
            · obtain ⟨g1, g2⟩ := hg
              have d1 : decide ((i : Int) < 32) = true := by simp; omega
              have d2 : decide ((t : Int) < 12) = true := by simp; omega
              have d1' : decide (i < 32) = true := by simp; omega
              have d2' : decide (t < 12) = true := by simp; omega
              have hTl : T.length ≤ 12 := by rw [ht.out]; omega
              have hpl := Lib.hid (put_len T (8 * (i : Int), 5, 0))
              go_wp2_with (first | (go_at_call 45; go_must (refine (pick_any r _ _ _ hR (by omega) (by omega) (by omega)).mono ?_); rintro e wx ⟨vx, rfl, ux, lx, hRx, hKx⟩; replace hF := hF.call hKx; replace hR := hRx; (try replace hO := Own.kp hO hKx hr); have hsx := hKx.size; clear hRx hKx) | (go_at_call 71; go_must (refine (l2Put_any _ _ _ _ _ _ (Own.rows hO (fun _ => rfl)) (by omega)).mono ?_); rintro e wy ⟨u, rfl, hOn, hby⟩; replace hR := hR.below hby hR.lt; replace hF := hF.below hby; replace hO := hOn.base (B := w.heap.size) (by omega); have hsy := hby.size; clear hOn hby))
              have hpl2 := put_len T (8 * (i : Int), 5, 1 + vx)
              rw [ht.out] at hpl2
              go_roundw
              case rel => exact ⟨i + 1, k2 + 1, _, by go_num, by omega, own_ne hO (put_pos _ _), by omega, by omega, hO, hR, hF, by omega⟩
              case measure => simp [intOf]; omega
            · by_cases g1 : i < 32
              · have g2 : ¬ t < 12 := fun g => hg ⟨g1, g⟩
                have d1 : decide ((i : Int) < 32) = true := by simp; omega
                have d2 : decide ((t : Int) < 12) = false := by simp; omega
                have d1' : decide (i < 32) = true := by simp; omega
                have d2' : decide (t < 12) = false := by simp; omega
                clear hg
                go_wp2
                go_ret
                exact ⟨_, T, rfl, hO, HN.out, by rw [ht.out]; omega, ⟨_, by omega, hR⟩, hF.kp⟩
              · have d1 : decide ((i : Int) < 32) = false := by simp; omega
                have d1' : decide (i < 32) = false := by simp; omega
                clear hg
                go_wp2
                go_ret
                exact ⟨_, T, rfl, hO, HN.out, by rw [ht.out]; omega, ⟨_, by omega, hR⟩, hF.kp⟩
        · have e1 : (vx == 1) = false := by simp [h1]
          clear h1 h0
          go_wp2
          go_ret
          exact ⟨_, T, rfl, hO, HN.out, by omega, ⟨_, by omega, hR⟩, hF.kp⟩
end Go.Proofs.Ytkkhbnhddhbgeaa
