/- The draw of the route comparison laws. The draw of the law on marks. The orders of numbers, rows, paths: plain laws. -/
import Derived.Test.YtonojegnbcgnaaaDoorZ11
import Derived.Deep.RegionHeld3
import Derived.Test.YtonojegnbcgnaaaDoorZ7
set_option linter.unusedSimpArgs false
set_option linter.unusedVariables false
namespace Go.Proofs.YtonojegnbcgnaaaDoor
open Go.RowKit

theorem endC {r n2 n3 : Nat} {W w : World} {z0 z1 z2 z3 z4 y0 y1 y2 y3 y4 : Value} (hF : Fr r W w [(n2, [z0, z1, z2, z3, z4]), (n3, [y0, y1, y2, y3, y4])]) (hne : n3 ≠ n2) (u0 u1 u2 u3 u4 x0 x1 x2 x3 x4 : Value) :
    ∃ w', w' = (((((((((w.setCell ⟨n2, 0, none⟩ u0).setCell ⟨n2, 1, none⟩ u1).setCell ⟨n2, 2, none⟩ u2).setCell ⟨n2, 3, none⟩ u3).setCell ⟨n2, 4, none⟩ u4).setCell ⟨n3, 0, none⟩ x0).setCell ⟨n3, 1, none⟩ x1).setCell ⟨n3, 2, none⟩ x2).setCell ⟨n3, 3, none⟩ x3).setCell ⟨n3, 4, none⟩ x4 ∧
      Fr r W w' [(n2, [u0, u1, u2, u3, u4]), (n3, [x0, x1, x2, x3, x4])] ∧ ∀ S v K, n2 ∈ S → n3 ∈ S → Rz w r S v K → Rz w' r S v K := by
  obtain ⟨w1, e1, h1, k1⟩ := put5 hF (by simp; omega) u0 u1 u2 u3 u4
  obtain ⟨w2, e2, h2, k2⟩ := put5 h1.swap (by simp; omega) x0 x1 x2 x3 x4
  subst e1
  exact ⟨w2, e2, h2.swap, fun S v K a b h => k2 S v K b (k1 S v K a h)⟩
end Go.Proofs.YtonojegnbcgnaaaDoor
set_option linter.unusedSimpArgs false
set_option linter.unusedVariables false
namespace Go.Proofs.YtonojegnbcgnaaaDoor
open Go.RowKit

set_option maxHeartbeats 4000000 in
theorem drawRouteMark_any (v : Value) (w : World) (h : Given w v) :
    Calls Tryd.prog 11 #[v] w fun e w' => ∃ (f b lk ti : Int) (pv mv : Value) (P M : List Int), e = .returned (.tuple #[.agg #[.int .i64 f, .int .i64 b, pv, .int .i64 lk, mv], .int .i64 ti]) ∧ It w' pv P ∧ It w' mv M ∧ L4 P ∧ M.length ≤ 10 ∧ 0 ≤ ti ∧ ti ≤ 10 ∧ Below w.heap.size w w' := by
  have hF := (Fr.start (w.heap.size + 1) w).alloc' [.int .i64 0, .int .i64 0, .slice none 0 0, .int .i64 0, .slice none 0 0] 27 (by omega)
  have hG := h.alloc (.cells #[.int .i64 0, .int .i64 0, .slice none 0 0, .int .i64 0, .slice none 0 0] 27)
  obtain ⟨n2, hn2⟩ : ∃ n, w.heap.size = n := ⟨_, rfl⟩
  go_enter Tryd.func11, Tryd.ntmps11
  go_wp2_with fail
  refine (open_any v _ hG).mono ?_; rintro e w1 ⟨rfl, hR, hb1⟩
  simp only [World.size_alloc, hn2] at hR hF
  have hr1 := hR.lt
  replace hF := hF.below hb1
  clear hG hb1
  go_wp2_with fail
  refine (l91Route_any _ 0 _ hR (by omega)).mono ?_; rintro e w2 ⟨f, b, lk, pv, mv, P, M, rfl, hP, hM, hP4, hM9, -, -, ⟨k2, hk2, hR2⟩, hK2⟩
  replace hF := hF.call hK2
  have hs2 := hK2.size
  replace hP := hP.rz (r := n2 + 1) (by omega) [n2] (by simp; omega)
  replace hM := hM.rz (r := n2 + 1) (by omega) [n2] (by simp; omega)
  obtain ⟨o1, c1, rfl, -⟩ := hP.it.1.ex
  obtain ⟨o2, c2, rfl, -⟩ := hM.it.1.ex
  clear hK2 hR
  go_wp2_with fail
  refine (pick_any _ _ _ _ hR2 (by omega) (by omega) (by omega)).mono ?_; rintro e wx ⟨vx, rfl, ux, lx, hRx, hKx⟩
  replace hF := hF.call hKx
  replace hP := hP.kp hKx
  replace hM := hM.kp hKx
  clear hKx hR2 hRx
  have o := hF.own; simp only [World.size_alloc, World.size_drew, World.size_setCell, List.mem_cons, List.not_mem_nil, or_false, forall_eq_or_imp, forall_eq, At, and_true, Nat.zero_add, Nat.reduceAdd, List.set_cons_zero, List.set_cons_succ] at o
  go_wp2_with fail
  obtain ⟨wz, hwz, e1, e2⟩ := put5 hF (by simp) (.int .i64 f) (.int .i64 b) (.slice o1 P.length c1) (.int .i64 lk) (.slice o2 M.length c2)
  rw [← hwz]
  clear hwz o hF
  have hF := e1
  have o := hF.own; simp only [World.size_alloc, World.size_drew, World.size_setCell, List.mem_cons, List.not_mem_nil, or_false, forall_eq_or_imp, forall_eq, At, and_true, Nat.zero_add, Nat.reduceAdd, List.set_cons_zero, List.set_cons_succ] at o
  refine bodyPost_ret (v := .tuple #[.agg #[.int .i64 f, .int .i64 b, .slice o1 P.length c1, .int .i64 lk, .slice o2 M.length c2], .int .i64 vx]) ?_ rfl ?_
  · simp [results, Tryd.results11, go_sem, o]
  · exact ⟨f, b, lk, vx, _, _, P, M, rfl, (e2 _ _ _ (by simp) hP).it, (e2 _ _ _ (by simp) hM).it, hP4, hM9, ux, by omega, e1.kp.below (by omega) (Nat.le_refl _)⟩
end Go.Proofs.YtonojegnbcgnaaaDoor
set_option linter.unusedSimpArgs false
set_option linter.unusedVariables false
namespace Go.Proofs.YtonojegnbcgnaaaDoor
open Go.RowKit

theorem icmp_neg1 {a b : Int} : icmp a b = -1 ↔ a < b := by unfold icmp; split <;> (try split) <;> omega
theorem icmp_0 {a b : Int} : icmp a b = 0 ↔ a = b := by unfold icmp; split <;> (try split) <;> omega
theorem icmp_1 {a b : Int} : icmp a b = 1 ↔ b < a := by unfold icmp; split <;> (try split) <;> omega
theorem icmp_neg (a b : Int) : icmp b a = - icmp a b := by unfold icmp; (repeat' split) <;> omega
theorem lex_neg : ∀ (L K : List Int), lex K L = - lex L K
  | [], [] => rfl
  | [], _ :: _ => rfl
  | _ :: _, [] => rfl
  | x :: L, y :: K => by
    simp only [lex]
    have h := icmp_neg x y
    by_cases e : icmp x y = 0
    · rw [if_pos e, if_pos (by omega), lex_neg L K]
    · rw [if_neg e, if_neg (by omega), h]
theorem lex_0 : ∀ {L K : List Int}, lex L K = 0 ↔ L = K
  | [], [] => by simp [lex]
  | [], _ :: _ => by simp [lex]
  | _ :: _, [] => by simp [lex]
  | x :: L, y :: K => by
    simp only [lex]
    by_cases e : icmp x y = 0
    · rw [if_pos e, lex_0 (L := L) (K := K)]
      have := icmp_0.1 e
      simp [this]
    · rw [if_neg e]
      have : x ≠ y := fun g => e (icmp_0.2 g)
      simp [e, this]
theorem lex_trans : ∀ {A B C : List Int}, lex A B = -1 → lex B C = -1 → lex A C = -1
  | [], [], _, h, _ => by simp [lex] at h
  | _ :: _, [], _, h, _ => by simp [lex] at h
  | _, _ :: _, [], _, h => by simp [lex] at h
  | [], _ :: _, _ :: _, _, _ => rfl
  | x :: A, y :: B, z :: C, h1, h2 => by
    simp only [lex] at h1 h2 ⊢
    by_cases e1 : icmp x y = 0
    · rw [if_pos e1] at h1
      obtain rfl := icmp_0.1 e1
      by_cases e2 : icmp x z = 0
      · rw [if_pos e2] at h2 ⊢; exact lex_trans h1 h2
      · rw [if_neg e2] at h2 ⊢; exact h2
    · rw [if_neg e1] at h1
      have l1 := icmp_neg1.1 h1
      by_cases e2 : icmp y z = 0
      · obtain rfl := icmp_0.1 e2
        rw [if_neg (by omega)]; exact h1
      · rw [if_neg e2] at h2
        have l2 := icmp_neg1.1 h2
        have l3 : icmp x z = -1 := icmp_neg1.2 (by omega)
        rw [if_neg (by omega)]; exact l3
theorem pcmp_lt {L K : List Int} : pcmp L K = -1 ↔ L.length < K.length ∨ L.length = K.length ∧ lex L K = -1 := by
  unfold pcmp orz
  by_cases e : icmp (L.length : Int) (K.length : Int) = 0
  · rw [if_pos e]; have := icmp_0.1 e; omega
  · rw [if_neg e, icmp_neg1]
    have : ¬ ((L.length : Int) = K.length) := fun g => e (icmp_0.2 g)
    omega
theorem pcmp_0 {L K : List Int} : pcmp L K = 0 ↔ L = K := by
  unfold pcmp orz
  by_cases e : icmp (L.length : Int) (K.length : Int) = 0
  · rw [if_pos e]; exact lex_0
  · rw [if_neg e]
    exact ⟨fun g => absurd g e, fun g => absurd (by subst g; exact icmp_0.2 rfl) e⟩
theorem pcmp_neg (L K : List Int) : pcmp K L = - pcmp L K := by
  unfold pcmp orz
  have h := icmp_neg (L.length : Int) (K.length : Int)
  by_cases e : icmp (L.length : Int) (K.length : Int) = 0
  · rw [if_pos e, if_pos (by omega), lex_neg]
  · rw [if_neg e, if_neg (by omega), h]
theorem pcmp_trans {A B C : List Int} (h1 : pcmp A B = -1) (h2 : pcmp B C = -1) : pcmp A C = -1 := by
  rw [pcmp_lt] at *
  rcases h1 with h1 | ⟨h1, g1⟩ <;> rcases h2 with h2 | ⟨h2, g2⟩
  · exact Or.inl (by omega)
  · exact Or.inl (by omega)
  · exact Or.inl (by omega)
  · exact Or.inr ⟨by omega, lex_trans g1 g2⟩
theorem PC_ok {L K : List Int} (h1 : POk L) (h2 : POk K) : PC L K = pcmp L K := if_pos ⟨h1, h2⟩
end Go.Proofs.YtonojegnbcgnaaaDoor
