/- Draws of route laws. -/
import Derived.Test.YtgegmampnpgcaaaDoorVd
set_option linter.unusedSimpArgs false
set_option linter.unusedVariables false
namespace Go.Proofs.YtgegmampnpgcaaaDoor
open Go.RowKit

/-- A row of numbers behind r, and at none of the blocks of S. -/
structure Rz (w : World) (r : Nat) (S : List Nat) (v : Value) (L : List Int) : Prop where
  it : It w v L
  lo : ∀ g, v.ownBlock = some g → r < g ∧ g < w.heap.size
  off : ∀ p ∈ S, v.ownBlock ≠ some p
theorem Rz.kp {w w' : World} {r : Nat} {S : List Nat} {v : Value} {L : List Int} (h : Rz w r S v L) (K : Kp r w w') : Rz w' r S v L :=
  ⟨⟨Rows.kp h.it.1 K (B := r + 1) (fun g hg => by have := (h.lo g hg).1; omega) (Nat.lt_succ_self r), h.it.2⟩, fun g hg => ⟨(h.lo g hg).1, Nat.lt_of_lt_of_le (h.lo g hg).2 K.size⟩, h.off⟩
theorem Rz.below {w w' : World} {r : Nat} {S : List Nat} {v : Value} {L : List Int} (h : Rz w r S v L) (K : Below w.heap.size w w') : Rz w' r S v L :=
  ⟨h.it.below K, fun g hg => ⟨(h.lo g hg).1, Nat.lt_of_lt_of_le (h.lo g hg).2 K.size⟩, h.off⟩
theorem Rz.alloc {w : World} {r : Nat} {S : List Nat} {v : Value} {L : List Int} (h : Rz w r S v L) (o : Obj) : Rz (w.alloc o) r (w.heap.size :: S) v L :=
  have h' := h.below ((Below.refl _ _).alloc (Nat.le_refl _) o)
  ⟨h'.it, h'.lo, fun p hp e => by
    rcases List.mem_cons.1 hp with rfl | hp
    · have := (h.lo _ e).2; omega
    · exact h.off p hp e⟩
theorem Rz.drew {w : World} {r : Nat} {S : List Nat} {v : Value} {L : List Int} (h : Rz w r S v L) : Rz w.drew r S v L := h.below (Below.refl _ _).drew
theorem Rz.set {w : World} {r : Nat} {S : List Nat} {v : Value} {L : List Int} (h : Rz w r S v L) {p : Addr} (hp : p.block ∈ S) (u : Value) : Rz (w.setCell p u) r S v L :=
  ⟨⟨Rows.setO h.it.1 (h.off _ hp) u, h.it.2⟩, fun g hg => by simp only [World.size_setCell]; exact h.lo g hg, h.off⟩
theorem Lies.rz {w : World} {lo r : Nat} {v : Value} {L : List Int} (h : Lies w lo v L) (hr : r ≤ lo) (S : List Nat) (hS : ∀ p ∈ S, p ≤ lo) : Rz w r S v L :=
  ⟨h.1, fun g hg => ⟨Nat.lt_of_le_of_lt hr (h.2 g hg).1, (h.2 g hg).2⟩, fun p hp e => by have := h.2 _ e; have := hS p hp; omega⟩
theorem put5 {r n : Nat} {W w : World} {z0 z1 z2 z3 z4 : Value} {L : List (Nat × List Value)} (hF : Fr r W w ((n, [z0, z1, z2, z3, z4]) :: L)) (hL : ∀ q ∈ L, q.1 ≠ n) (u0 u1 u2 u3 u4 : Value) :
    ∃ w', w' = ((((w.setCell ⟨n, 0, none⟩ u0).setCell ⟨n, 1, none⟩ u1).setCell ⟨n, 2, none⟩ u2).setCell ⟨n, 3, none⟩ u3).setCell ⟨n, 4, none⟩ u4 ∧ Fr r W w' ((n, [u0, u1, u2, u3, u4]) :: L) ∧ ∀ S v K, n ∈ S → Rz w r S v K → Rz w' r S v K :=
  ⟨_, rfl, ((((hF.set 0 u0 (by simp) hL).set 1 u1 (by simp) hL).set 2 u2 (by simp) hL).set 3 u3 (by simp) hL).set 4 u4 (by simp) hL,
   fun S v K hn h => ((((h.set (p := ⟨n, 0, none⟩) hn u0).set (p := ⟨n, 1, none⟩) hn u1).set (p := ⟨n, 2, none⟩) hn u2).set (p := ⟨n, 3, none⟩) hn u3).set (p := ⟨n, 4, none⟩) hn u4⟩
set_option maxHeartbeats 2000000 in
theorem drawRouteText_any (v : Value) (w : World) (h : Given w v) :
    Calls Tryd.prog 35 #[v] w fun e w' => ∃ (f b lk : Int) (pv mv : Value) (P M : List Int), e = .returned (.agg #[.int .i64 f, .int .i64 b, pv, .int .i64 lk, mv]) ∧ It w' pv P ∧ It w' mv M ∧ P.length ≤ 4 ∧ M.length ≤ 10 ∧ Below w.heap.size w w' := by
  have hF := (Fr.start (w.heap.size + 1) w).alloc' [.int .i64 0, .int .i64 0, .slice none 0 0, .int .i64 0, .slice none 0 0] 29 (by omega)
  have hG := h.alloc (.cells #[.int .i64 0, .int .i64 0, .slice none 0 0, .int .i64 0, .slice none 0 0] 29)
  obtain ⟨n2, hn2⟩ : ∃ n, w.heap.size = n := ⟨_, rfl⟩
  go_enter Tryd.func35, Tryd.ntmps35
  go_wp2_with fail
  refine (open_any v _ hG).mono ?_; rintro e w1 ⟨rfl, hR, hb1⟩
  simp only [World.size_alloc, hn2] at hR hF
  have hr1 := hR.lt
  replace hF := hF.below hb1
  clear hG hb1
  go_wp2_with fail
  refine (l91Route_any _ 0 _ hR (by omega)).mono ?_; rintro e w2 ⟨f, b, lk, pv, mv, P, M, rfl, hP, hM, hP4, hM9, -, -, -, hK⟩
  replace hF := hF.call hK
  have hP' := hP.rz (r := n2 + 1) (by omega) [n2] (by simp; omega)
  have hM' := hM.rz (r := n2 + 1) (by omega) [n2] (by simp; omega)
  clear hK hR hP hM
  obtain ⟨o1, c1, rfl, -⟩ := hP'.it.1.ex
  obtain ⟨o2, c2, rfl, -⟩ := hM'.it.1.ex
  have o := hF.own; simp only [World.size_alloc, World.size_drew, World.size_setCell, List.mem_cons, List.not_mem_nil, or_false, forall_eq_or_imp, forall_eq, At, and_true, Nat.zero_add, Nat.reduceAdd, List.set_cons_zero, List.set_cons_succ] at o
  go_wp2_with fail
  obtain ⟨wz, hwz, e1, e2⟩ := put5 hF (by simp) (.int .i64 f) (.int .i64 b) (.slice o1 P.length c1) (.int .i64 lk) (.slice o2 M.length c2)
  rw [← hwz]
  clear hwz o hF
  have hF := e1
  have o := hF.own; simp only [World.size_alloc, World.size_drew, World.size_setCell, List.mem_cons, List.not_mem_nil, or_false, forall_eq_or_imp, forall_eq, At, and_true, Nat.zero_add, Nat.reduceAdd, List.set_cons_zero, List.set_cons_succ] at o
  refine bodyPost_ret (v := .agg #[.int .i64 f, .int .i64 b, .slice o1 P.length c1, .int .i64 lk, .slice o2 M.length c2]) ?_ rfl ?_
  · simp [results, Tryd.results35, go_sem, o]
  · exact ⟨f, b, lk, _, _, P, M, rfl, (e2 _ _ _ (by simp) hP').it, (e2 _ _ _ (by simp) hM').it, hP4, hM9, e1.kp.below (by omega) (Nat.le_refl _)⟩
end Go.Proofs.YtgegmampnpgcaaaDoor
