/- A copy of a route; the draw of the comparison law. -/
import Derived.Test.YtgegmampnpgcaaaDoorVe
import Derived.Test.YtgegmampnpgcaaaDoorCp
set_option linter.unusedSimpArgs false
set_option linter.unusedVariables false
namespace Go.Proofs.YtgegmampnpgcaaaDoor
open Go.RowKit

theorem Own.put5 {n : Nat} {E : TypeId} {w : World} {B : Nat} {v : Value} {L : List Int} (h : Own E w B v 1 encI L) (hn : n < B) (u0 u1 u2 u3 u4 : Value) :
    Own E (((((w.setCell ⟨n, 0, none⟩ u0).setCell ⟨n, 1, none⟩ u1).setCell ⟨n, 2, none⟩ u2).setCell ⟨n, 3, none⟩ u3).setCell ⟨n, 4, none⟩ u4) B v 1 encI L :=
  ((((h.set (a := ⟨n, 0, none⟩) hn u0).set (a := ⟨n, 1, none⟩) hn u1).set (a := ⟨n, 2, none⟩) hn u2).set (a := ⟨n, 3, none⟩) hn u3).set (a := ⟨n, 4, none⟩) hn u4
theorem Own.lies {E : TypeId} {w : World} {B lo : Nat} {v : Value} {L : List Int} (h : Own E w B v 1 encI L) (hl : lo < B) : Lies w lo v L := ⟨h.it, fun g hg => ⟨Nat.lt_of_lt_of_le hl (h.ge g hg), h.lt g hg⟩⟩
theorem Fr.swap {r : Nat} {W w : World} {x y : Nat × List Value} {L : List (Nat × List Value)} (h : Fr r W w (x :: y :: L)) : Fr r W w (y :: x :: L) := h.sub fun p hp => by
  simp only [List.mem_cons] at hp ⊢
  rcases hp with h | h | h <;> simp [h]
set_option maxHeartbeats 2000000 in
theorem l4Copy_any (f b lk : Int) (pv mv : Value) (P M : List Int) (w : World) (hp : It w pv P) (hm : It w mv M) (hP : P.length ≤ 1000) (hM : M.length ≤ 1000) :
    Calls Tryd.prog 63 #[.agg #[.int .i64 f, .int .i64 b, pv, .int .i64 lk, mv]] w fun e w' => ∃ (pv' mv' : Value), e = .returned (.agg #[.int .i64 f, .int .i64 b, pv', .int .i64 lk, mv']) ∧ Lies w' w.heap.size pv' P ∧ Lies w' w.heap.size mv' M ∧ Below w.heap.size w w' := by
  obtain ⟨o1, c1, rfl, -⟩ := hp.1.ex
  obtain ⟨o2, c2, rfl, -⟩ := hm.1.ex
  obtain ⟨n, hn⟩ : ∃ n, Hid (P.length = n) := ⟨_, rfl⟩
  obtain ⟨m, hm0⟩ : ∃ m, Hid (M.length = m) := ⟨_, rfl⟩
  rw [hn.out] at hp ⊢
  rw [hm0.out] at hm ⊢
  have HP := Lib.hid hp
  have HM := Lib.hid hm
  clear hp hm
  have hF := ((Fr.start (w.heap.size + 2) w).alloc' [.int .i64 f, .int .i64 b, .slice o1 n c1, .int .i64 lk, .slice o2 m c2] 29 (by omega)).alloc' [.int .i64 0, .int .i64 0, .slice none 0 0, .int .i64 0, .slice none 0 0] 29 (by simp)
  simp only [World.size_alloc] at hF
  obtain ⟨n1, hn1⟩ : ∃ n, w.heap.size = n := ⟨_, rfl⟩
  have hsz : ((w.alloc (.cells #[.int .i64 f, .int .i64 b, .slice o1 n c1, .int .i64 lk, .slice o2 m c2] 29)).alloc (.cells #[.int .i64 0, .int .i64 0, .slice none 0 0, .int .i64 0, .slice none 0 0] 29)).heap.size = n1 + 2 := by simp [hn1]
  rw [hn1] at hF
  have hp1 := HP.out.below (hF.kp.below (B := w.heap.size) (by omega) (Nat.le_refl _))
  have tok1 : True := trivial
  have o := hF.own; simp only [World.size_alloc, World.size_drew, World.size_setCell, List.mem_cons, List.not_mem_nil, or_false, forall_eq_or_imp, forall_eq, At, and_true, Nat.zero_add, Nat.reduceAdd, List.set_cons_zero, List.set_cons_succ] at o
  go_enter Tryd.func63, Tryd.ntmps63
  go_wp2_with (first
    | (at_builtin; clear tok1; refine wpList_copy rfl _ _ 27 rfl 3 (.int .i64 0) 8 Tryd.underlying27 infoInt rfl (by decide) (by show Value.slice (some ⟨_, 0, none⟩) 0 0 = Value.slice (some ⟨_, 0, none⟩) 0 0; simp only [hsz]) (.slice o1 n c1) P rfl hp1 (by omega) ?_; intro g1 k1 w1 hO1 hb1; rw [hsz] at hO1; have hs1 := hb1.size; rw [hsz] at hs1; replace hF := hF.below hb1; clear o; have o := hF.own; simp only [World.size_alloc, World.size_drew, World.size_setCell, List.mem_cons, List.not_mem_nil, or_false, forall_eq_or_imp, forall_eq, At, and_true, Nat.zero_add, Nat.reduceAdd, List.set_cons_zero, List.set_cons_succ] at o; clear hb1)
    | (at_builtin; have hF2 := hF.swap.set 2 (.slice (some ⟨g1, 0, none⟩) P.length k1) (by simp) (by simp); refine wpList_copy rfl _ _ 27 rfl 3 (.int .i64 0) 8 Tryd.underlying27 infoInt rfl (by decide) (by show Value.slice (some ⟨_, 0, none⟩) 0 0 = Value.slice (some ⟨_, 0, none⟩) 0 0; simp only [World.size_setCell]) (.slice o2 m c2) M rfl (HM.out.below (hF2.kp.below (B := w.heap.size) (by omega) (Nat.le_refl _))) (by omega) ?_; intro g2 k2 w2 hO2 hb2; replace hO1 := (hO1.set (a := ⟨n1, 2, none⟩) (by dsimp only; omega) (.slice (some ⟨g1, 0, none⟩) P.length k1)).below hb2; simp only [World.size_setCell] at hO2; replace hF := hF2.below hb2; clear hF2 o hb2; have o := hF.own; simp only [World.size_alloc, World.size_drew, World.size_setCell, List.mem_cons, List.not_mem_nil, or_false, forall_eq_or_imp, forall_eq, At, and_true, Nat.zero_add, Nat.reduceAdd, List.set_cons_zero, List.set_cons_succ] at o))
  have hF2 := (hF.set 4 (.slice (some ⟨g2, 0, none⟩) M.length k2) (by simp) (by simp)).swap
  replace hO1 := hO1.set (a := ⟨n1, 4, none⟩) (by dsimp only; omega) (.slice (some ⟨g2, 0, none⟩) M.length k2)
  replace hO2 := hO2.set (a := ⟨n1, 4, none⟩) (by dsimp only; omega) (.slice (some ⟨g2, 0, none⟩) M.length k2)
  obtain ⟨wz, hwz, e1, -⟩ := put5 hF2 (by simp) (.int .i64 f) (.int .i64 b) (.slice (some ⟨g1, 0, none⟩) P.length k1) (.int .i64 lk) (.slice (some ⟨g2, 0, none⟩) M.length k2)
  replace hO1 := hO1.put5 (n := n1 + 1) (by omega) (.int .i64 f) (.int .i64 b) (.slice (some ⟨g1, 0, none⟩) P.length k1) (.int .i64 lk) (.slice (some ⟨g2, 0, none⟩) M.length k2)
  replace hO2 := hO2.put5 (n := n1 + 1) (by omega) (.int .i64 f) (.int .i64 b) (.slice (some ⟨g1, 0, none⟩) P.length k1) (.int .i64 lk) (.slice (some ⟨g2, 0, none⟩) M.length k2)
  rw [← hwz] at hO1 hO2 ⊢
  clear hwz o hF hF2
  have hF := e1
  have o := hF.own; simp only [World.size_alloc, World.size_drew, World.size_setCell, List.mem_cons, List.not_mem_nil, or_false, forall_eq_or_imp, forall_eq, At, and_true, Nat.zero_add, Nat.reduceAdd, List.set_cons_zero, List.set_cons_succ] at o
  refine bodyPost_ret (v := .agg #[.int .i64 f, .int .i64 b, .slice (some ⟨g1, 0, none⟩) P.length k1, .int .i64 lk, .slice (some ⟨g2, 0, none⟩) M.length k2]) ?_ rfl ?_
  · simp [results, Tryd.results63, go_sem, o]
  · exact ⟨_, _, rfl, hO1.lies (by omega), hO2.lies (by omega), e1.kp.below (by omega) (Nat.le_refl _)⟩
end Go.Proofs.YtgegmampnpgcaaaDoor
