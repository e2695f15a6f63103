/- A copy of a route; the draw of the comparison law. The draw of the route comparison laws. The orders of numbers, rows, paths: plain laws. -/
import Derived.Test.YtjkfnjjkjhggfaaZ11
import Derived.Deep.RegionHeld3
import Derived.Test.YtjkfnjjkjhggfaaZ7
set_option linter.unusedSimpArgs false
set_option linter.unusedVariables false
namespace Go.Proofs.Ytjkfnjjkjhggfaa
open Go.RowKit

theorem Own.put5 {n : Nat} {E : TypeId} {w : World} {B : Nat} {v : Value} {L : List Int} (h : Own E w B v 1 encI L) (hn : n < B) (u0 u1 u2 u3 u4 : Value) :
    Own E (((((w.setCell ⟨n, 0, none⟩ u0).setCell ⟨n, 1, none⟩ u1).setCell ⟨n, 2, none⟩ u2).setCell ⟨n, 3, none⟩ u3).setCell ⟨n, 4, none⟩ u4) B v 1 encI L :=
  ((((h.set (a := ⟨n, 0, none⟩) hn u0).set (a := ⟨n, 1, none⟩) hn u1).set (a := ⟨n, 2, none⟩) hn u2).set (a := ⟨n, 3, none⟩) hn u3).set (a := ⟨n, 4, none⟩) hn u4
theorem Own.lies {E : TypeId} {w : World} {B lo : Nat} {v : Value} {L : List Int} (h : Own E w B v 1 encI L) (hl : lo < B) : Lies w lo v L := ⟨h.it, fun g hg => ⟨Nat.lt_of_lt_of_le hl (h.ge g hg), h.lt g hg⟩⟩
theorem Fr.swap {r : Nat} {W w : World} {x y : Nat × List Value} {L : List (Nat × List Value)} (h : Fr r W w (x :: y :: L)) : Fr r W w (y :: x :: L) := h.sub fun p hp => by
  simp only [List.mem_cons] at hp ⊢
  rcases hp with h | h | h <;> simp [h]
set_option maxHeartbeats 2000000 in
theorem l4Copy_any (f b lk : Int) (pv mv : Value) (P M : List Int) (w : World) (hp : It w pv P) (hm : It w mv M) (hP : P.length ≤ 1000) (hM : M.length ≤ 1000) :
    Calls Try.prog 36 #[.agg #[.int .i64 f, .int .i64 b, pv, .int .i64 lk, mv]] w fun e w' => ∃ (pv' mv' : Value), e = .returned (.agg #[.int .i64 f, .int .i64 b, pv', .int .i64 lk, mv']) ∧ Lies w' w.heap.size pv' P ∧ Lies w' w.heap.size mv' M ∧ Below w.heap.size w w' := by
  obtain ⟨o1, c1, rfl, -⟩ := hp.1.ex
  obtain ⟨o2, c2, rfl, -⟩ := hm.1.ex
  obtain ⟨n, hn⟩ : ∃ n, Hid (P.length = n) := ⟨_, rfl⟩
  obtain ⟨m, hm0⟩ : ∃ m, Hid (M.length = m) := ⟨_, rfl⟩
  rw [hn.out] at hp ⊢
  rw [hm0.out] at hm ⊢
  have HP := Lib.hid hp
  have HM := Lib.hid hm
  clear hp hm
  have hF := ((Fr.start (w.heap.size + 2) w).alloc' [.int .i64 f, .int .i64 b, .slice o1 n c1, .int .i64 lk, .slice o2 m c2] 64 (by omega)).alloc' [.int .i64 0, .int .i64 0, .slice none 0 0, .int .i64 0, .slice none 0 0] 64 (by simp)
  simp only [World.size_alloc] at hF
  obtain ⟨n1, hn1⟩ : ∃ n, w.heap.size = n := ⟨_, rfl⟩
  have hsz : ((w.alloc (.cells #[.int .i64 f, .int .i64 b, .slice o1 n c1, .int .i64 lk, .slice o2 m c2] 64)).alloc (.cells #[.int .i64 0, .int .i64 0, .slice none 0 0, .int .i64 0, .slice none 0 0] 64)).heap.size = n1 + 2 := by simp [hn1]
  rw [hn1] at hF
  have hp1 := HP.out.below (hF.kp.below (B := w.heap.size) (by omega) (Nat.le_refl _))
  have tok1 : True := trivial
  have o := hF.own; simp only [World.size_alloc, World.size_drew, World.size_setCell, List.mem_cons, List.not_mem_nil, or_false, forall_eq_or_imp, forall_eq, At, and_true, Nat.zero_add, Nat.reduceAdd, List.set_cons_zero, List.set_cons_succ] at o
  go_enter Try.func36, Try.ntmps36
  go_wp2_with (first
    | (at_builtin; clear tok1; refine wpList_copy rfl _ _ 40 rfl 3 (.int .i64 0) 8 Try.underlying40 infoInt rfl (by decide) (by show Value.slice (some ⟨_, 0, none⟩) 0 0 = Value.slice (some ⟨_, 0, none⟩) 0 0; simp only [hsz]) (.slice o1 n c1) P rfl hp1 (by omega) ?_; intro g1 k1 w1 hO1 hb1; rw [hsz] at hO1; have hs1 := hb1.size; rw [hsz] at hs1; replace hF := hF.below hb1; clear o; have o := hF.own; simp only [World.size_alloc, World.size_drew, World.size_setCell, List.mem_cons, List.not_mem_nil, or_false, forall_eq_or_imp, forall_eq, At, and_true, Nat.zero_add, Nat.reduceAdd, List.set_cons_zero, List.set_cons_succ] at o; clear hb1)
    | (at_builtin; have hF2 := hF.swap.set 2 (.slice (some ⟨g1, 0, none⟩) P.length k1) (by simp) (by simp); refine wpList_copy rfl _ _ 40 rfl 3 (.int .i64 0) 8 Try.underlying40 infoInt rfl (by decide) (by show Value.slice (some ⟨_, 0, none⟩) 0 0 = Value.slice (some ⟨_, 0, none⟩) 0 0; simp only [World.size_setCell]) (.slice o2 m c2) M rfl (HM.out.below (hF2.kp.below (B := w.heap.size) (by omega) (Nat.le_refl _))) (by omega) ?_; intro g2 k2 w2 hO2 hb2; replace hO1 := (hO1.set (a := ⟨n1, 2, none⟩) (by dsimp only; omega) (.slice (some ⟨g1, 0, none⟩) P.length k1)).below hb2; simp only [World.size_setCell] at hO2; replace hF := hF2.below hb2; clear hF2 o hb2; have o := hF.own; simp only [World.size_alloc, World.size_drew, World.size_setCell, List.mem_cons, List.not_mem_nil, or_false, forall_eq_or_imp, forall_eq, At, and_true, Nat.zero_add, Nat.reduceAdd, List.set_cons_zero, List.set_cons_succ] at o))
  have hF2 := (hF.set 4 (.slice (some ⟨g2, 0, none⟩) M.length k2) (by simp) (by simp)).swap
  replace hO1 := hO1.set (a := ⟨n1, 4, none⟩) (by dsimp only; omega) (.slice (some ⟨g2, 0, none⟩) M.length k2)
  replace hO2 := hO2.set (a := ⟨n1, 4, none⟩) (by dsimp only; omega) (.slice (some ⟨g2, 0, none⟩) M.length k2)
  obtain ⟨wz, hwz, e1, -⟩ := put5 hF2 (by simp) (.int .i64 f) (.int .i64 b) (.slice (some ⟨g1, 0, none⟩) P.length k1) (.int .i64 lk) (.slice (some ⟨g2, 0, none⟩) M.length k2)
  replace hO1 := hO1.put5 (n := n1 + 1) (by omega) (.int .i64 f) (.int .i64 b) (.slice (some ⟨g1, 0, none⟩) P.length k1) (.int .i64 lk) (.slice (some ⟨g2, 0, none⟩) M.length k2)
  replace hO2 := hO2.put5 (n := n1 + 1) (by omega) (.int .i64 f) (.int .i64 b) (.slice (some ⟨g1, 0, none⟩) P.length k1) (.int .i64 lk) (.slice (some ⟨g2, 0, none⟩) M.length k2)
  rw [← hwz] at hO1 hO2 ⊢
  clear hwz o hF hF2
  have hF := e1
  have o := hF.own; simp only [World.size_alloc, World.size_drew, World.size_setCell, List.mem_cons, List.not_mem_nil, or_false, forall_eq_or_imp, forall_eq, At, and_true, Nat.zero_add, Nat.reduceAdd, List.set_cons_zero, List.set_cons_succ] at o
  refine bodyPost_ret (v := .agg #[.int .i64 f, .int .i64 b, .slice (some ⟨g1, 0, none⟩) P.length k1, .int .i64 lk, .slice (some ⟨g2, 0, none⟩) M.length k2]) ?_ rfl ?_
  · simp [results, Try.results36, go_sem, o]
  · exact ⟨_, _, rfl, hO1.lies (by omega), hO2.lies (by omega), e1.kp.below (by omega) (Nat.le_refl _)⟩
end Go.Proofs.Ytjkfnjjkjhggfaa
set_option linter.unusedSimpArgs false
set_option linter.unusedVariables false
namespace Go.Proofs.Ytjkfnjjkjhggfaa
open Go.RowKit

theorem endC {r n2 n3 : Nat} {W w : World} {z0 z1 z2 z3 z4 y0 y1 y2 y3 y4 : Value} (hF : Fr r W w [(n2, [z0, z1, z2, z3, z4]), (n3, [y0, y1, y2, y3, y4])]) (hne : n3 ≠ n2) (u0 u1 u2 u3 u4 x0 x1 x2 x3 x4 : Value) :
    ∃ w', w' = (((((((((w.setCell ⟨n2, 0, none⟩ u0).setCell ⟨n2, 1, none⟩ u1).setCell ⟨n2, 2, none⟩ u2).setCell ⟨n2, 3, none⟩ u3).setCell ⟨n2, 4, none⟩ u4).setCell ⟨n3, 0, none⟩ x0).setCell ⟨n3, 1, none⟩ x1).setCell ⟨n3, 2, none⟩ x2).setCell ⟨n3, 3, none⟩ x3).setCell ⟨n3, 4, none⟩ x4 ∧
      Fr r W w' [(n2, [u0, u1, u2, u3, u4]), (n3, [x0, x1, x2, x3, x4])] ∧ ∀ S v K, n2 ∈ S → n3 ∈ S → Rz w r S v K → Rz w' r S v K := by
  obtain ⟨w1, e1, h1, k1⟩ := put5 hF (by simp; omega) u0 u1 u2 u3 u4
  obtain ⟨w2, e2, h2, k2⟩ := put5 h1.swap (by simp; omega) x0 x1 x2 x3 x4
  subst e1
  exact ⟨w2, e2, h2.swap, fun S v K a b h => k2 S v K b (k1 S v K a h)⟩
end Go.Proofs.Ytjkfnjjkjhggfaa
set_option linter.unusedSimpArgs false
set_option linter.unusedVariables false
namespace Go.Proofs.Ytjkfnjjkjhggfaa
open Go.RowKit

theorem icmp_neg1 {a b : Int} : icmp a b = -1 ↔ a < b := by unfold icmp; split <;> (try split) <;> omega
theorem icmp_0 {a b : Int} : icmp a b = 0 ↔ a = b := by unfold icmp; split <;> (try split) <;> omega
theorem icmp_1 {a b : Int} : icmp a b = 1 ↔ b < a := by unfold icmp; split <;> (try split) <;> omega
theorem icmp_neg (a b : Int) : icmp b a = - icmp a b := by unfold icmp; (repeat' split) <;> omega
theorem lex_neg : ∀ (L K : List Int), lex K L = - lex L K
  | [], [] => rfl
  | [], _ :: _ => rfl
  | _ :: _, [] => rfl
  | x :: L, y :: K => by
    simp only [lex]
    have h := icmp_neg x y
    by_cases e : icmp x y = 0
    · rw [if_pos e, if_pos (by omega), lex_neg L K]
    · rw [if_neg e, if_neg (by omega), h]
theorem lex_0 : ∀ {L K : List Int}, lex L K = 0 ↔ L = K
  | [], [] => by simp [lex]
  | [], _ :: _ => by simp [lex]
  | _ :: _, [] => by simp [lex]
  | x :: L, y :: K => by
    simp only [lex]
    by_cases e : icmp x y = 0
    · rw [if_pos e, lex_0 (L := L) (K := K)]
      have := icmp_0.1 e
      simp [this]
    · rw [if_neg e]
      have : x ≠ y := fun g => e (icmp_0.2 g)
      simp [e, this]
theorem lex_trans : ∀ {A B C : List Int}, lex A B = -1 → lex B C = -1 → lex A C = -1
  | [], [], _, h, _ => by simp [lex] at h
  | _ :: _, [], _, h, _ => by simp [lex] at h
  | _, _ :: _, [], _, h => by simp [lex] at h
  | [], _ :: _, _ :: _, _, _ => rfl
  | x :: A, y :: B, z :: C, h1, h2 => by
    simp only [lex] at h1 h2 ⊢
    by_cases e1 : icmp x y = 0
    · rw [if_pos e1] at h1
      obtain rfl := icmp_0.1 e1
      by_cases e2 : icmp x z = 0
      · rw [if_pos e2] at h2 ⊢; exact lex_trans h1 h2
      · rw [if_neg e2] at h2 ⊢; exact h2
    · rw [if_neg e1] at h1
      have l1 := icmp_neg1.1 h1
      by_cases e2 : icmp y z = 0
      · obtain rfl := icmp_0.1 e2
        rw [if_neg (by omega)]; exact h1
      · rw [if_neg e2] at h2
        have l2 := icmp_neg1.1 h2
        have l3 : icmp x z = -1 := icmp_neg1.2 (by omega)
        rw [if_neg (by omega)]; exact l3
theorem pcmp_lt {L K : List Int} : pcmp L K = -1 ↔ L.length < K.length ∨ L.length = K.length ∧ lex L K = -1 := by
  unfold pcmp orz
  by_cases e : icmp (L.length : Int) (K.length : Int) = 0
  · rw [if_pos e]; have := icmp_0.1 e; omega
  · rw [if_neg e, icmp_neg1]
    have : ¬ ((L.length : Int) = K.length) := fun g => e (icmp_0.2 g)
    omega
theorem pcmp_0 {L K : List Int} : pcmp L K = 0 ↔ L = K := by
  unfold pcmp orz
  by_cases e : icmp (L.length : Int) (K.length : Int) = 0
  · rw [if_pos e]; exact lex_0
  · rw [if_neg e]
    exact ⟨fun g => absurd g e, fun g => absurd (by subst g; exact icmp_0.2 rfl) e⟩
theorem pcmp_neg (L K : List Int) : pcmp K L = - pcmp L K := by
  unfold pcmp orz
  have h := icmp_neg (L.length : Int) (K.length : Int)
  by_cases e : icmp (L.length : Int) (K.length : Int) = 0
  · rw [if_pos e, if_pos (by omega), lex_neg]
  · rw [if_neg e, if_neg (by omega), h]
theorem pcmp_trans {A B C : List Int} (h1 : pcmp A B = -1) (h2 : pcmp B C = -1) : pcmp A C = -1 := by
  rw [pcmp_lt] at *
  rcases h1 with h1 | ⟨h1, g1⟩ <;> rcases h2 with h2 | ⟨h2, g2⟩
  · exact Or.inl (by omega)
  · exact Or.inl (by omega)
  · exact Or.inl (by omega)
  · exact Or.inr ⟨by omega, lex_trans g1 g2⟩
theorem PC_ok {L K : List Int} (h1 : POk L) (h2 : POk K) : PC L K = pcmp L K := if_pos ⟨h1, h2⟩
end Go.Proofs.Ytjkfnjjkjhggfaa
