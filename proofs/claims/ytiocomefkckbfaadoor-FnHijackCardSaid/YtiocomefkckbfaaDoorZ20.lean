/- A copy of a route; the draw of the comparison law. The draw of the route comparison laws. The draw of the laws on made seals. -/
import Derived.Test.YtiocomefkckbfaaDoorZ19
import Derived.Deep.RegionHeld3
set_option linter.unusedSimpArgs false
set_option linter.unusedVariables false
namespace Go.Proofs.YtiocomefkckbfaaDoor
open Go.RowKit

theorem Own.put5 {n : Nat} {E : TypeId} {w : World} {B : Nat} {v : Value} {L : List Int} (h : Own E w B v 1 encI L) (hn : n < B) (u0 u1 u2 u3 u4 : Value) :
    Own E (((((w.setCell ⟨n, 0, none⟩ u0).setCell ⟨n, 1, none⟩ u1).setCell ⟨n, 2, none⟩ u2).setCell ⟨n, 3, none⟩ u3).setCell ⟨n, 4, none⟩ u4) B v 1 encI L :=
  ((((h.set (a := ⟨n, 0, none⟩) hn u0).set (a := ⟨n, 1, none⟩) hn u1).set (a := ⟨n, 2, none⟩) hn u2).set (a := ⟨n, 3, none⟩) hn u3).set (a := ⟨n, 4, none⟩) hn u4
theorem Own.lies {E : TypeId} {w : World} {B lo : Nat} {v : Value} {L : List Int} (h : Own E w B v 1 encI L) (hl : lo < B) : Lies w lo v L := ⟨h.it, fun g hg => ⟨Nat.lt_of_lt_of_le hl (h.ge g hg), h.lt g hg⟩⟩
theorem Fr.swap {r : Nat} {W w : World} {x y : Nat × List Value} {L : List (Nat × List Value)} (h : Fr r W w (x :: y :: L)) : Fr r W w (y :: x :: L) := h.sub fun p hp => by
  simp only [List.mem_cons] at hp ⊢
  rcases hp with h | h | h <;> simp [h]
end Go.Proofs.YtiocomefkckbfaaDoor
set_option linter.unusedSimpArgs false
set_option linter.unusedVariables false
namespace Go.Proofs.YtiocomefkckbfaaDoor
open Go.RowKit

theorem endC {r n2 n3 : Nat} {W w : World} {z0 z1 z2 z3 z4 y0 y1 y2 y3 y4 : Value} (hF : Fr r W w [(n2, [z0, z1, z2, z3, z4]), (n3, [y0, y1, y2, y3, y4])]) (hne : n3 ≠ n2) (u0 u1 u2 u3 u4 x0 x1 x2 x3 x4 : Value) :
    ∃ w', w' = (((((((((w.setCell ⟨n2, 0, none⟩ u0).setCell ⟨n2, 1, none⟩ u1).setCell ⟨n2, 2, none⟩ u2).setCell ⟨n2, 3, none⟩ u3).setCell ⟨n2, 4, none⟩ u4).setCell ⟨n3, 0, none⟩ x0).setCell ⟨n3, 1, none⟩ x1).setCell ⟨n3, 2, none⟩ x2).setCell ⟨n3, 3, none⟩ x3).setCell ⟨n3, 4, none⟩ x4 ∧
      Fr r W w' [(n2, [u0, u1, u2, u3, u4]), (n3, [x0, x1, x2, x3, x4])] ∧ ∀ S v K, n2 ∈ S → n3 ∈ S → Rz w r S v K → Rz w' r S v K := by
  obtain ⟨w1, e1, h1, k1⟩ := put5 hF (by simp; omega) u0 u1 u2 u3 u4
  obtain ⟨w2, e2, h2, k2⟩ := put5 h1.swap (by simp; omega) x0 x1 x2 x3 x4
  subst e1
  exact ⟨w2, e2, h2.swap, fun S v K a b h => k2 S v K b (k1 S v K a h)⟩
end Go.Proofs.YtiocomefkckbfaaDoor
set_option linter.unusedSimpArgs false
set_option linter.unusedVariables false
namespace Go.Proofs.YtiocomefkckbfaaDoor
open Go.RowKit

set_option maxHeartbeats 4000000 in
theorem drawSealMake_any (v : Value) (w : World) (h : Given w v) :
    Calls Tryd.prog 15 #[v] w fun e w' => ∃ (f b lk ti : Int) (pv mv : Value) (P M : List Int), e = .returned (.tuple #[.agg #[.int .i64 f, .int .i64 b, pv, .int .i64 lk, mv], .int .i64 ti]) ∧ It w' pv P ∧ It w' mv M ∧ L4 P ∧ M.length ≤ 10 ∧ 0 ≤ ti ∧ ti ≤ 6 ∧ Below w.heap.size w w' := by
  have hF := (Fr.start (w.heap.size + 1) w).alloc' [.int .i64 0, .int .i64 0, .slice none 0 0, .int .i64 0, .slice none 0 0] 35 (by omega)
  have hG := h.alloc (.cells #[.int .i64 0, .int .i64 0, .slice none 0 0, .int .i64 0, .slice none 0 0] 35)
  obtain ⟨n2, hn2⟩ : ∃ n, w.heap.size = n := ⟨_, rfl⟩
  go_enter Tryd.func15, Tryd.ntmps15
  go_wp2_with fail
  refine (open_any v _ hG).mono ?_; rintro e w1 ⟨rfl, hR, hb1⟩
  simp only [World.size_alloc, hn2] at hR hF
  have hr1 := hR.lt
  replace hF := hF.below hb1
  clear hG hb1
  go_wp2_with fail
  refine (l91Route_any _ 0 _ hR (by omega)).mono ?_; rintro e w2 ⟨f, b, lk, pv, mv, P, M, rfl, hP, hM, hP4, hM9, -, -, ⟨k2, hk2, hR2⟩, hK2⟩
  replace hF := hF.call hK2
  have hs2 := hK2.size
  replace hP := hP.rz (r := n2 + 1) (by omega) [n2] (by simp; omega)
  replace hM := hM.rz (r := n2 + 1) (by omega) [n2] (by simp; omega)
  obtain ⟨o1, c1, rfl, -⟩ := hP.it.1.ex
  obtain ⟨o2, c2, rfl, -⟩ := hM.it.1.ex
  clear hK2 hR
  go_wp2_with fail
  refine (pick_any _ _ _ _ hR2 (by omega) (by omega) (by omega)).mono ?_; rintro e wx ⟨vx, rfl, ux, lx, hRx, hKx⟩
  replace hF := hF.call hKx
  replace hP := hP.kp hKx
  replace hM := hM.kp hKx
  clear hKx hR2 hRx
  have o := hF.own; simp only [World.size_alloc, World.size_drew, World.size_setCell, List.mem_cons, List.not_mem_nil, or_false, forall_eq_or_imp, forall_eq, At, and_true, Nat.zero_add, Nat.reduceAdd, List.set_cons_zero, List.set_cons_succ] at o
  go_wp2_with fail
  obtain ⟨wz, hwz, e1, e2⟩ := put5 hF (by simp) (.int .i64 f) (.int .i64 b) (.slice o1 P.length c1) (.int .i64 lk) (.slice o2 M.length c2)
  rw [← hwz]
  clear hwz o hF
  have hF := e1
  have o := hF.own; simp only [World.size_alloc, World.size_drew, World.size_setCell, List.mem_cons, List.not_mem_nil, or_false, forall_eq_or_imp, forall_eq, At, and_true, Nat.zero_add, Nat.reduceAdd, List.set_cons_zero, List.set_cons_succ] at o
  refine bodyPost_ret (v := .tuple #[.agg #[.int .i64 f, .int .i64 b, .slice o1 P.length c1, .int .i64 lk, .slice o2 M.length c2], .int .i64 vx]) ?_ rfl ?_
  · simp [results, Tryd.results15, go_sem, o]
  · exact ⟨f, b, lk, vx, _, _, P, M, rfl, (e2 _ _ _ (by simp) hP).it, (e2 _ _ _ (by simp) hM).it, hP4, hM9, ux, by omega, e1.kp.below (by omega) (Nat.le_refl _)⟩
end Go.Proofs.YtiocomefkckbfaaDoor
