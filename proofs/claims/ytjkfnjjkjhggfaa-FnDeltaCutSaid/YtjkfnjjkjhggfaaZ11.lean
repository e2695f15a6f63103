/- Routes drawn. Draws of route laws. append([]int{}, v...): a copy. -/
import Derived.Test.YtjkfnjjkjhggfaaZ10
import Derived.Test.YtjkfnjjkjhggfaaZ8
set_option linter.unusedSimpArgs false
set_option linter.unusedVariables false
namespace Go.Proofs.Ytjkfnjjkjhggfaa
open Go.RowKit

set_option maxHeartbeats 2000000 in
theorem l91Marks_any (r k : Nat) (w : World) (hR : Rd w r k) (hk : k ≤ 700000) :
    Calls Try.prog 53 #[.pointer (some ⟨r, 0, none⟩)] w fun e w' => ∃ (v : Value) (L : List Int), e = .returned v ∧ Own 3 w' w.heap.size v 1 encI L ∧ L.length ≤ 9 ∧ (∃ k', k' ≤ k + 20 ∧ Rd w' r k') ∧ Kp r w w' := by
  have hr := hR.lt
  have hF := (Fr.start r w).other (.cells #[] 3)
  have hO : Own 3 (w.alloc (.cells #[] 3)) w.heap.size (.slice (some ⟨w.heap.size, 0, none⟩) 0 0) 1 encI [] := Own.made _ _ _ _ _ (Nat.le_refl _)
  replace hR := hR.alloc (.cells #[] 3)
  go_enter Try.func53, Try.ntmps53
  go_wp2
  go_loopw [3, 4] (fun s3 s4 wr => ∃ (m k' : Nat) (L : List Int), s4 = .int .i64 ((m : Int) + 1) ∧ m ≤ 9 ∧ L.length ≤ m ∧ k' ≤ k + m ∧ Own 3 wr w.heap.size s3 1 encI L ∧ Rd wr r k' ∧ Fr r w wr [] ∧ w.heap.size ≤ wr.heap.size) (fun _ s4 _ => 11 - (intOf s4).toNat)
  case atStart => exact ⟨0, k, [], rfl, by omega, by simp, by omega, hO, hR, hF, by simp⟩
  case round =>
    clear hF hR hO
    obtain ⟨m, k', L, rfl, hm, hL, hk', hO, hR, hF, hsz⟩ := hrel
    by_cases hlt : m < 9
    · have hle : (m : Int) + 1 ≤ 9 := by omega
      go_wp2_with fail
      refine (pick_any r _ _ _ hR (by omega) (by omega) (by omega)).mono ?_; rintro e wx ⟨vx, rfl, ux, lx, hRx, hKx⟩
      replace hF := hF.call hKx
      replace hR := hRx
      replace hO := Own.kp hO hKx hr
      have hsx := hKx.size
      clear hRx hKx
      by_cases hz : vx = 0
      · subst hz
        go_wp2_with ((at_builtin; refine wpList_app rfl _ _ 40 rfl 3 (.int .i64 0) 1 8 Try.underlying40 infoInt rfl (by decide) (by decide) w.heap.size encI _ _ rfl (hO.alloc _) (((m : Int) + 1)) ⟨_, 0, none⟩ 1 rfl rfl (cells_new _ _ _) (by simp [encI, Value.oneCell']) (by omega) (by simp only [World.size_alloc]; omega) ?_; intro v' wx hO1 hg1 hb1 hf1; (have hsz9 := hb1.size; simp only [World.size_alloc] at hsz9; replace hO := hO1; replace hR := (hR.alloc _).below hb1 hr; replace hF := (hF.other _).belowB hb1 (Nat.le_refl _) (by simp); clear hO1 hg1 hb1 hf1)))
        go_roundw
        case rel => exact ⟨m + 1, k' + 1, L ++ [(m : Int) + 1], by go_num, by omega, by simp; omega, by omega, hO, hR, hF, by omega⟩
        case measure => simp [intOf]; omega
      · have dz : (vx == 0) = false := by simp [hz]
        clear hz
        go_wp2_with fail
        go_roundw
        case rel => exact ⟨m + 1, k' + 1, L, by go_num, by omega, by omega, by omega, hO, hR, hF, by omega⟩
        case measure => simp [intOf]; omega
    · have hle : ¬ (m : Int) + 1 ≤ 9 := by omega
      go_wp2_with fail
      go_ret
      exact ⟨_, rfl, L, hO, by omega, ⟨k', by omega, hR⟩, hF.kp⟩

theorem Fr.grown {r : Nat} {W w w' : World} {L : List (Nat × List Value)} {row : Option Nat} (h : Fr r W w L) (hg : w.grownBy w' row) (hW : ∀ g, row = some g → W.heap.size ≤ g) (hL : ∀ p ∈ L, row ≠ some p.1) : Fr r W w' L :=
  ⟨⟨hg.os.trans h.kp.os, hg.tape.trans h.kp.tape, hg.output.trans h.kp.output, Nat.le_trans h.kp.size hg.size, fun i hi hr => (hg.block i (Nat.lt_of_lt_of_le hi h.kp.size) (fun e => by have := hW i e.symm; omega)).trans (h.kp.block i hi hr)⟩, fun p hp => by
    obtain ⟨h1, h2, h3, h4⟩ := h.own p hp
    have hne : some p.1 ≠ row := fun e => hL p hp e.symm
    exact ⟨At.move (fun o v hv => (hg.cell_far ⟨p.1, o, none⟩ h4 hne).trans hv) (fun o v _ => hg.frozen_far ⟨p.1, o, none⟩ h4 hne) _ _ h1, h2, h3, Nat.lt_of_lt_of_le h4 hg.size⟩⟩
theorem Own.put' {α : Type} {E E' : TypeId} {w : World} {B : Nat} {v : Value} {sz : Nat} {enc : α → List Value} {L : List α} (h : Own E w B v sz enc L) {p : Addr} (hp : v.ownBlock ≠ some p.block) (u : Value) : Own E (w.setCell p u) B v sz enc L := ownsRow_setCell_other h hp u
/-- A row of numbers that lies behind n2, and not at n3. -/
structure Rw (w : World) (n2 n3 : Nat) (v : Value) (L : List Int) : Prop where
  it : It w v L
  lo : ∀ g, v.ownBlock = some g → n2 < g ∧ g ≠ n3
  hi : ∀ g, v.ownBlock = some g → g < w.heap.size
theorem Rw.kp {w w' : World} {n2 n3 r : Nat} {v : Value} {L : List Int} (h : Rw w n2 n3 v L) (K : Kp r w w') (hr : r < n2) : Rw w' n2 n3 v L :=
  ⟨⟨Rows.kp h.it.1 K (B := n2) (fun g hg => by have := (h.lo g hg).1; omega) hr, h.it.2⟩, h.lo, fun g hg => Nat.lt_of_lt_of_le (h.hi g hg) K.size⟩
theorem Rw.below {w w' : World} {n2 n3 : Nat} {v : Value} {L : List Int} (h : Rw w n2 n3 v L) (K : Below w.heap.size w w') : Rw w' n2 n3 v L := ⟨h.it.below K, h.lo, fun g hg => Nat.lt_of_lt_of_le (h.hi g hg) K.size⟩
theorem Rw.alloc {w : World} {n2 n3 : Nat} {v : Value} {L : List Int} (h : Rw w n2 n3 v L) (o : Obj) : Rw (w.alloc o) n2 n3 v L := h.below ((Below.refl _ _).alloc (Nat.le_refl _) _)
theorem Rw.drew {w : World} {n2 n3 : Nat} {v : Value} {L : List Int} (h : Rw w n2 n3 v L) : Rw w.drew n2 n3 v L := h.below (Below.refl _ _).drew
theorem Rw.set {w : World} {n2 n3 : Nat} {v : Value} {L : List Int} (h : Rw w n2 n3 v L) {p : Addr} (hp : p.block ≤ n2 ∨ p.block = n3) (u : Value) : Rw (w.setCell p u) n2 n3 v L :=
  ⟨⟨Rows.setO h.it.1 (fun e => by have := h.lo _ e; omega) u, h.it.2⟩, h.lo, fun g hg => by simp only [World.size_setCell]; exact h.hi g hg⟩
/-- A row of numbers, and between which blocks it lies. -/
def Lies (w : World) (lo : Nat) (v : Value) (L : List Int) : Prop := It w v L ∧ ∀ g, v.ownBlock = some g → lo < g ∧ g < w.heap.size
theorem Rw.lies {w : World} {n2 n3 : Nat} {v : Value} {L : List Int} (h : Rw w n2 n3 v L) : Lies w n2 v L := ⟨h.it, fun g hg => ⟨(h.lo g hg).1, h.hi g hg⟩⟩
theorem endR {r k n2 n3 : Nat} {W w : World} {z0 z1 z2 z3 z4 u0 u1 pv u3 mv : Value} {P M : List Int} (hF : Fr r W w [(n2, [z0, z1, z2, z3, z4])]) (hR : Rd w r k) (hP : Rw w n2 n3 pv P) (hM : Rw w n2 n3 mv M) (hr : r < n2) :
    ∃ w', w' = ((((w.setCell ⟨n2, 0, none⟩ u0).setCell ⟨n2, 1, none⟩ u1).setCell ⟨n2, 2, none⟩ pv).setCell ⟨n2, 3, none⟩ u3).setCell ⟨n2, 4, none⟩ mv ∧ Fr r W w' [(n2, [u0, u1, pv, u3, mv])] ∧ Rd w' r k ∧ Lies w' n2 pv P ∧ Lies w' n2 mv M :=
  ⟨_, rfl, ((((hF.set 0 u0 (by simp) (by simp)).set 1 u1 (by simp) (by simp)).set 2 pv (by simp) (by simp)).set 3 u3 (by simp) (by simp)).set 4 mv (by simp) (by simp),
   ((((hR.setCell (p := ⟨n2, 0, none⟩) hr u0).setCell (p := ⟨n2, 1, none⟩) hr u1).setCell (p := ⟨n2, 2, none⟩) hr pv).setCell (p := ⟨n2, 3, none⟩) hr u3).setCell (p := ⟨n2, 4, none⟩) hr mv,
   (((((hP.set (p := ⟨n2, 0, none⟩) (Or.inl (Nat.le_refl _)) u0).set (p := ⟨n2, 1, none⟩) (Or.inl (Nat.le_refl _)) u1).set (p := ⟨n2, 2, none⟩) (Or.inl (Nat.le_refl _)) pv).set (p := ⟨n2, 3, none⟩) (Or.inl (Nat.le_refl _)) u3).set (p := ⟨n2, 4, none⟩) (Or.inl (Nat.le_refl _)) mv).lies,
   (((((hM.set (p := ⟨n2, 0, none⟩) (Or.inl (Nat.le_refl _)) u0).set (p := ⟨n2, 1, none⟩) (Or.inl (Nat.le_refl _)) u1).set (p := ⟨n2, 2, none⟩) (Or.inl (Nat.le_refl _)) pv).set (p := ⟨n2, 3, none⟩) (Or.inl (Nat.le_refl _)) u3).set (p := ⟨n2, 4, none⟩) (Or.inl (Nat.le_refl _)) mv).lies⟩
/-- Small numbers of a range. -/
def SmR (f b : Int) : Prop := -300 ≤ f ∧ f ≤ 600 ∧ -300 ≤ b ∧ b ≤ 600
/-- A drawn path. -/
def L4 (P : List Int) : Prop := P.length ≤ 4 ∧ ∀ y ∈ P, Bts y 1 5
set_option maxHeartbeats 4000000 in
theorem l91Route_any (r k : Nat) (w : World) (hR : Rd w r k) (hk : k ≤ 600000) :
    Calls Try.prog 49 #[.pointer (some ⟨r, 0, none⟩)] w fun e w' => ∃ (f b lk : Int) (pv mv : Value) (P M : List Int), e = .returned (.agg #[.int .i64 f, .int .i64 b, pv, .int .i64 lk, mv]) ∧ Lies w' w.heap.size pv P ∧ Lies w' w.heap.size mv M ∧ L4 P ∧ M.length ≤ 10 ∧ -10 ≤ lk ∧ (lk ≤ 20 ∧ SmR f b) ∧ (∃ k', k' ≤ k + 100 ∧ Rd w' r k') ∧ Kp r w w' := by
  have hr := hR.lt
  have hF := (Fr.start r w).alloc [.int .i64 0, .int .i64 0, .slice none 0 0, .int .i64 0, .slice none 0 0] 64 hr
  replace hR := hR.alloc (.cells #[.int .i64 0, .int .i64 0, .slice none 0 0, .int .i64 0, .slice none 0 0] 64)
  obtain ⟨n2, hn2⟩ : ∃ n, w.heap.size = n := ⟨_, rfl⟩
  rw [hn2] at hF hr
  go_enter Try.func49, Try.ntmps49
  go_wp2_with fail
  refine (l91Range_any r _ _ hR (by omega)).mono ?_; rintro e w1 ⟨f, b, rfl, f1, f2, f3, f4, ⟨k1, hk1, hR1⟩, hK1⟩
  have HFB : Hid (SmR f b) := ⟨by omega, by omega, by omega, by omega⟩
  clear f1 f2 f3 f4
  replace hF := hF.call hK1
  have hs1 := hK1.size
  simp only [World.size_alloc] at hs1
  clear hR hK1
  go_wp2_with fail
  refine (l91Path_any r _ _ hR1 (by omega)).mono ?_; rintro e w2 ⟨pv, P, rfl, hO1, hP4, hPb, ⟨k2, hk2, hR2⟩, hK2⟩
  replace hP4 : L4 P := ⟨hP4, hPb⟩
  clear hPb
  replace hF := hF.call hK2
  have hs2 := hK2.size
  clear hR1 hK2
  go_wp2_with fail
  refine (pick_any r _ _ _ hR2 (by omega) (by omega) (by omega)).mono ?_; rintro e w3 ⟨lk, rfl, u3, l3, hR3, hK3⟩
  replace hF := hF.call hK3
  replace hO1 := hO1.kp hK3 (by omega)
  have hs3 := hK3.size
  clear hR2 hK3
  go_wp2_with fail
  refine (l91Marks_any r _ _ hR3 (by omega)).mono ?_; rintro e w4 ⟨mv, M, rfl, hO2, hM9, ⟨k4, hk4, hR4⟩, hK4⟩
  have HK3 := hO1.lt
  replace hF := hF.call hK4
  replace hO1 := hO1.kp hK4 (by omega)
  have hs4 := hK4.size
  clear hR3 hK4
  obtain ⟨n3, hn3⟩ : ∃ n, w4.heap.size = n := ⟨_, rfl⟩
  have hP : Rw w4 n2 n3 pv P := ⟨hO1.it, fun g hg => by have := hO1.ge g hg; have := hO1.lt g hg; omega, hO1.lt⟩
  have hM : Rw w4 n2 n3 mv M := ⟨hO2.it, fun g hg => by have := hO2.ge g hg; have := hO2.lt g hg; omega, hO2.lt⟩
  obtain ⟨o1, c1, rfl, -⟩ := hP.it.1.ex
  obtain ⟨o2, c2, rfl, -⟩ := hM.it.1.ex
  obtain ⟨n, hn⟩ : ∃ n, Hid (P.length = n) := ⟨_, rfl⟩
  obtain ⟨m, hm⟩ : ∃ m, Hid (M.length = m) := ⟨_, rfl⟩
  have hA : Apart (.slice o1 P.length c1) (.slice o2 M.length c2) := fun g h1 h2 => by have := HK3 g h1; have := hO2.ge g h2; omega
  have HO2 : Hid (Own 3 w4 w3.heap.size (.slice o2 M.length c2) 1 encI M) := hO2
  rw [hn.out] at hP hA ⊢
  rw [hm.out] at hM hM9 HO2 hA ⊢
  clear hO1 hO2
  replace hF := hF.alloc [.int .i64 f, .int .i64 b, .slice o1 n c1, .int .i64 lk, .slice o2 m c2] 64 hR4.lt
  have hR5 := hR4.alloc (.cells #[.int .i64 f, .int .i64 b, .slice o1 n c1, .int .i64 lk, .slice o2 m c2] 64)
  replace hP := hP.alloc (.cells #[.int .i64 f, .int .i64 b, .slice o1 n c1, .int .i64 lk, .slice o2 m c2] 64)
  replace hM := hM.alloc (.cells #[.int .i64 f, .int .i64 b, .slice o1 n c1, .int .i64 lk, .slice o2 m c2] 64)
  replace HO2 := Lib.hid (HO2.out.alloc (.cells #[.int .i64 f, .int .i64 b, .slice o1 n c1, .int .i64 lk, .slice o2 m c2] 64))
  rw [hn3] at hF
  have h32 : n2 < n3 := by omega
  have hr3 : r < n3 := by omega
  have o := hF.own; simp only [World.size_alloc, World.size_drew, World.size_setCell, List.mem_cons, List.not_mem_nil, or_false, forall_eq_or_imp, forall_eq, At, and_true, Nat.zero_add, Nat.reduceAdd, List.set_cons_zero, List.set_cons_succ] at o
  by_cases h0 : n = 0
  · subst h0
    go_wp2_with fail
    refine (pick_any r _ _ _ (by repeat (first | assumption | apply Rd.alloc | apply Rd.drew | apply Rd.drewN | (refine Rd.setCell ?_ (by dsimp only; omega) _) | apply Rd.setCell | ((try dsimp only); omega))) (by omega) (by omega) (by omega)).mono ?_; rintro e wx ⟨vx, rfl, ux, lx, hRx, hKx⟩
    replace hF := Fr.call (by repeat (first | assumption | apply Fr.drew | apply Fr.drewN | apply Fr.alloc_1 | apply Fr.alloc_2 | apply Fr.alloc_3 | apply Fr.alloc_4 | apply Fr.alloc_5 | apply Fr.alloc_8 | apply Fr.set | (simp only [List.length_cons, List.length_nil, List.length_set]; omega) | (simp only [List.mem_cons, List.not_mem_nil, or_false, forall_eq_or_imp, forall_eq, ne_eq]; omega) | (simp only [World.size_alloc, World.size_setCell, World.size_drew]; omega) | omega)) hKx
    replace hP := hP.kp hKx (by omega)
    replace hM := hM.kp hKx (by omega)
    replace hR5 := hRx
    have hsx := hKx.size
    (try simp only [World.size_alloc, World.size_setCell, World.size_drew] at hsx)
    clear hRx
    replace HO2 := Lib.hid (Own.kp HO2.out hKx (by omega))
    clear hKx o
    have o := hF.own; simp only [World.size_alloc, World.size_drew, World.size_setCell, List.mem_cons, List.not_mem_nil, or_false, forall_eq_or_imp, forall_eq, At, and_true, Nat.zero_add, Nat.reduceAdd, List.set_cons_zero, List.set_cons_succ] at o
    by_cases z8 : vx = 0
    · subst z8
      go_wp2_with fail
      refine (pick_any r _ _ _ (by repeat (first | assumption | apply Rd.alloc | apply Rd.drew | apply Rd.drewN | (refine Rd.setCell ?_ (by dsimp only; omega) _) | apply Rd.setCell | ((try dsimp only); omega))) (by omega) (by omega) (by omega)).mono ?_; rintro e wx ⟨vx, rfl, ux, lx, hRx, hKx⟩
      replace hF := Fr.call (by repeat (first | assumption | apply Fr.drew | apply Fr.drewN | apply Fr.alloc_1 | apply Fr.alloc_2 | apply Fr.alloc_3 | apply Fr.alloc_4 | apply Fr.alloc_5 | apply Fr.alloc_8 | apply Fr.set | (simp only [List.length_cons, List.length_nil, List.length_set]; omega) | (simp only [List.mem_cons, List.not_mem_nil, or_false, forall_eq_or_imp, forall_eq, ne_eq]; omega) | (simp only [World.size_alloc, World.size_setCell, World.size_drew]; omega) | omega)) hKx
      replace hP := hP.kp hKx (by omega)
      replace hM := hM.kp hKx (by omega)
      replace hR5 := hRx
      have hsx := hKx.size
      (try simp only [World.size_alloc, World.size_setCell, World.size_drew] at hsx)
      clear hRx
      replace HO2 := Lib.hid (Own.kp HO2.out hKx (by omega))
      clear hKx o
      have o := hF.own; simp only [World.size_alloc, World.size_drew, World.size_setCell, List.mem_cons, List.not_mem_nil, or_false, forall_eq_or_imp, forall_eq, At, and_true, Nat.zero_add, Nat.reduceAdd, List.set_cons_zero, List.set_cons_succ] at o
      by_cases z5 : vx = 0
      · subst z5
        clear HO2
        obtain ⟨n4, hn4⟩ : ∃ n, wx.heap.size = n := ⟨_, rfl⟩
        have hr4 := hR5.lt
        replace hF := hF.alloc [.int .i64 (-1), .int .i64 10, .int .i64 9] 3 hr4
        replace hP := hP.alloc (.cells #[.int .i64 (-1), .int .i64 10, .int .i64 9] 3)
        replace hM := hM.alloc (.cells #[.int .i64 (-1), .int .i64 10, .int .i64 9] 3)
        replace hR5 := hR5.alloc (.cells #[.int .i64 (-1), .int .i64 10, .int .i64 9] 3)
        rw [hn4] at hF hr4
        clear o
        have o := hF.own; simp only [World.size_alloc, World.size_drew, World.size_setCell, List.mem_cons, List.not_mem_nil, or_false, forall_eq_or_imp, forall_eq, At, and_true, Nat.zero_add, Nat.reduceAdd, List.set_cons_zero, List.set_cons_succ] at o
        go_wp2_with fail
        refine (pick_any r _ _ _ (by repeat (first | assumption | apply Rd.alloc | apply Rd.drew | apply Rd.drewN | (refine Rd.setCell ?_ (by dsimp only; omega) _) | apply Rd.setCell | ((try dsimp only); omega))) (by omega) (by omega) (by omega)).mono ?_; rintro e wx ⟨vx, rfl, ux, lx, hRx, hKx⟩
        replace hF := Fr.call (by repeat (first | assumption | apply Fr.drew | apply Fr.drewN | apply Fr.alloc_1 | apply Fr.alloc_2 | apply Fr.alloc_3 | apply Fr.alloc_4 | apply Fr.alloc_5 | apply Fr.alloc_8 | apply Fr.set | (simp only [List.length_cons, List.length_nil, List.length_set]; omega) | (simp only [List.mem_cons, List.not_mem_nil, or_false, forall_eq_or_imp, forall_eq, ne_eq]; omega) | (simp only [World.size_alloc, World.size_setCell, World.size_drew]; omega) | omega)) hKx
        replace hP := hP.kp hKx (by omega)
        replace hM := hM.kp hKx (by omega)
        replace hR5 := hRx
        have hsx := hKx.size
        (try simp only [World.size_alloc, World.size_setCell, World.size_drew] at hsx)
        clear hRx
        clear hKx o
        have o := hF.own; simp only [World.size_alloc, World.size_drew, World.size_setCell, List.mem_cons, List.not_mem_nil, or_false, forall_eq_or_imp, forall_eq, At, and_true, Nat.zero_add, Nat.reduceAdd, List.set_cons_zero, List.set_cons_succ] at o
        have hv3 : vx = 0 ∨ vx = 1 ∨ vx = 2 := by omega
        rcases hv3 with rfl | rfl | rfl
        · go_wp2_with fail
          obtain ⟨wz, hwz, e1, e2, e3, e4⟩ := (endR (u0 := .int .i64 f) (u1 := .int .i64 b) (u3 := .int .i64 (-1)) ((hF.rest).set 3 (.int .i64 (-1)) (by simp) (by simp; omega)).rest (hR5.setCell (p := ⟨n3, 3, none⟩) hr3 _) (hP.set (p := ⟨n3, 3, none⟩) (Or.inr rfl) _) (hM.set (p := ⟨n3, 3, none⟩) (Or.inr rfl) _) hr)
          rw [← hwz]
          clear hwz
          have o := e1.own; simp only [World.size_alloc, World.size_drew, World.size_setCell, List.mem_cons, List.not_mem_nil, or_false, forall_eq_or_imp, forall_eq, At, and_true, Nat.zero_add, Nat.reduceAdd, List.set_cons_zero, List.set_cons_succ] at o
          refine bodyPost_ret (v := .agg #[.int .i64 f, .int .i64 b, (.slice o1 0 c1), .int .i64 (-1), (.slice o2 m c2)]) ?_ rfl ?_
          · simp [results, Try.results49, go_sem, o]
          · clear o
            exact ⟨f, b, (-1), (.slice o1 0 c1), (.slice o2 m c2), _, _, rfl, by rw [hn2]; exact e3, by rw [hn2]; exact e4, hP4, (by have := hm.out; omega), by omega, ⟨by omega, HFB.out⟩, ⟨_, by omega, e2⟩, e1.kp⟩
        · go_wp2_with fail
          obtain ⟨wz, hwz, e1, e2, e3, e4⟩ := (endR (u0 := .int .i64 f) (u1 := .int .i64 b) (u3 := .int .i64 10) ((hF.rest).set 3 (.int .i64 10) (by simp) (by simp; omega)).rest (hR5.setCell (p := ⟨n3, 3, none⟩) hr3 _) (hP.set (p := ⟨n3, 3, none⟩) (Or.inr rfl) _) (hM.set (p := ⟨n3, 3, none⟩) (Or.inr rfl) _) hr)
          rw [← hwz]
          clear hwz
          have o := e1.own; simp only [World.size_alloc, World.size_drew, World.size_setCell, List.mem_cons, List.not_mem_nil, or_false, forall_eq_or_imp, forall_eq, At, and_true, Nat.zero_add, Nat.reduceAdd, List.set_cons_zero, List.set_cons_succ] at o
          refine bodyPost_ret (v := .agg #[.int .i64 f, .int .i64 b, (.slice o1 0 c1), .int .i64 10, (.slice o2 m c2)]) ?_ rfl ?_
          · simp [results, Try.results49, go_sem, o]
          · clear o
            exact ⟨f, b, 10, (.slice o1 0 c1), (.slice o2 m c2), _, _, rfl, by rw [hn2]; exact e3, by rw [hn2]; exact e4, hP4, (by have := hm.out; omega), by omega, ⟨by omega, HFB.out⟩, ⟨_, by omega, e2⟩, e1.kp⟩
        · go_wp2_with fail
          obtain ⟨wz, hwz, e1, e2, e3, e4⟩ := (endR (u0 := .int .i64 f) (u1 := .int .i64 b) (u3 := .int .i64 9) ((hF.rest).set 3 (.int .i64 9) (by simp) (by simp; omega)).rest (hR5.setCell (p := ⟨n3, 3, none⟩) hr3 _) (hP.set (p := ⟨n3, 3, none⟩) (Or.inr rfl) _) (hM.set (p := ⟨n3, 3, none⟩) (Or.inr rfl) _) hr)
          rw [← hwz]
          clear hwz
          have o := e1.own; simp only [World.size_alloc, World.size_drew, World.size_setCell, List.mem_cons, List.not_mem_nil, or_false, forall_eq_or_imp, forall_eq, At, and_true, Nat.zero_add, Nat.reduceAdd, List.set_cons_zero, List.set_cons_succ] at o
          refine bodyPost_ret (v := .agg #[.int .i64 f, .int .i64 b, (.slice o1 0 c1), .int .i64 9, (.slice o2 m c2)]) ?_ rfl ?_
          · simp [results, Try.results49, go_sem, o]
          · clear o
            exact ⟨f, b, 9, (.slice o1 0 c1), (.slice o2 m c2), _, _, rfl, by rw [hn2]; exact e3, by rw [hn2]; exact e4, hP4, (by have := hm.out; omega), by omega, ⟨by omega, HFB.out⟩, ⟨_, by omega, e2⟩, e1.kp⟩
      · have dz : (vx == 0) = false := by simp [z5]
        by_cases y5 : vx = 1
        · subst y5
          have hmm : M.length ≤ 9 := by have := hm.out; omega
          have tok1 : True := trivial
          go_wp2_with fail
          go_region_law (first
            | (clear tok1; go_simp; go_wp2_with (go_at_call 41; go_must (refine (pick_any r _ _ _ hR5.drew (by omega) (by omega) (by omega)).mono ?_); rintro e wy ⟨vx, rfl, ux, lx, hRx, hKx⟩; replace hF := hF.drew.call hKx; replace hP := hP.drew.kp hKx (by omega); replace hM := hM.drew.kp hKx (by omega); replace HO2 := Lib.hid (HO2.out.drew.kp hKx (by omega)); have hsy := hKx.size; (try simp only [World.size_drew] at hsy); replace hR5 := hRx; clear hRx hKx o; have o := hF.own; simp only [World.size_alloc, World.size_drew, World.size_setCell, List.mem_cons, List.not_mem_nil, or_false, forall_eq_or_imp, forall_eq, At, and_true, Nat.zero_add, Nat.reduceAdd, List.set_cons_zero, List.set_cons_succ] at o))
            | ((refine step_app (by rfl) _ _ _ (by rfl) 3 (.int .i64 0) 1 8 Try.underlying40 infoInt rfl (by decide) (by decide) w3.heap.size encI _ M rfl (HO2.out.alloc _) vx ⟨_, 0, none⟩ 1 rfl rfl (cells_new _ _ _) (by simp [encI, Value.oneCell']) (by omega) (by simp only [World.size_alloc]; omega) ?_; intro v9 wz hO9 hg9 hb9 hf9; have hF9 := Fr.grown (hF.other _) hg9 (fun g hg => by have := HO2.out.ge g hg; omega) (by intro p hp e; simp only [List.mem_cons, List.not_mem_nil, or_false] at hp; have := hM.lo p.1 e; rcases hp with rfl | rfl <;> simp at this <;> omega); have o9 := hF9.own; simp only [World.size_alloc, World.size_drew, World.size_setCell, List.mem_cons, List.not_mem_nil, or_false, forall_eq_or_imp, forall_eq, At, and_true, Nat.zero_add, Nat.reduceAdd, List.set_cons_zero, List.set_cons_succ] at o9; obtain ⟨g9, c9, n9, rfl, hn9, hl9⟩ : ∃ g c n, v9 = .slice (some ⟨g, 0, none⟩) n c ∧ n ≤ c ∧ Hid ((M ++ [vx]).length = n) := hO9.two.resolve_left (fun q => by simp at q))))
          all_goals
            have hP9 : Rw wz n2 n3 (.slice o1 0 c1) _ := ⟨⟨Rows.grown (hP.alloc _).it.1 hg9 hA, hP.it.2⟩, hP.lo, fun g hg => Nat.lt_of_lt_of_le ((hP.alloc _).hi g hg) hg9.size⟩
            have hM9 : Rw wz n2 n3 (.slice (some ⟨g9, 0, none⟩) n9 c9) (M ++ [vx]) := ⟨hO9.it, fun g hg => by
              rcases hf9 with e | ⟨g', e, hge⟩
              · rw [e] at hg; exact hM.lo g hg
              · rw [e] at hg; simp only [World.size_alloc] at hge; cases hg; omega, hO9.lt⟩
            have hR9 := (hR5.alloc _).below hb9 (by omega)
            clear hg9 hb9 hf9 hO9 o
            go_wp2_with fail
            obtain ⟨wz, hwz, e1, e2, e3, e4⟩ := (endR (u0 := .int .i64 f) (u1 := .int .i64 b) (u3 := .int .i64 lk) (hF9.set 4 (.slice (some ⟨g9, 0, none⟩) n9 c9) (by simp) (by simp; omega)).rest (hR9.setCell (p := ⟨n3, 4, none⟩) hr3 _) (hP9.set (p := ⟨n3, 4, none⟩) (Or.inr rfl) _) (hM9.set (p := ⟨n3, 4, none⟩) (Or.inr rfl) _) hr)
            rw [← hwz]
            clear hwz
            have o := e1.own; simp only [World.size_alloc, World.size_drew, World.size_setCell, List.mem_cons, List.not_mem_nil, or_false, forall_eq_or_imp, forall_eq, At, and_true, Nat.zero_add, Nat.reduceAdd, List.set_cons_zero, List.set_cons_succ] at o
            refine bodyPost_ret (v := .agg #[.int .i64 f, .int .i64 b, (.slice o1 0 c1), .int .i64 lk, (.slice (some ⟨g9, 0, none⟩) n9 c9)]) ?_ rfl ?_
            · simp [results, Try.results49, go_sem, o]
            · clear o
              exact ⟨f, b, lk, (.slice o1 0 c1), (.slice (some ⟨g9, 0, none⟩) n9 c9), _, _, rfl, by rw [hn2]; exact e3, by rw [hn2]; exact e4, hP4, (by simp; omega), by omega, ⟨by omega, HFB.out⟩, ⟨_, by omega, e2⟩, e1.kp⟩
        · have dy : (vx == 1) = false := by simp [y5]
          go_wp2_with fail
          obtain ⟨wz, hwz, e1, e2, e3, e4⟩ := (endR (u0 := .int .i64 f) (u1 := .int .i64 b) (u3 := .int .i64 lk) hF.rest hR5 hP hM hr)
          rw [← hwz]
          clear hwz
          have o := e1.own; simp only [World.size_alloc, World.size_drew, World.size_setCell, List.mem_cons, List.not_mem_nil, or_false, forall_eq_or_imp, forall_eq, At, and_true, Nat.zero_add, Nat.reduceAdd, List.set_cons_zero, List.set_cons_succ] at o
          refine bodyPost_ret (v := .agg #[.int .i64 f, .int .i64 b, (.slice o1 0 c1), .int .i64 lk, (.slice o2 m c2)]) ?_ rfl ?_
          · simp [results, Try.results49, go_sem, o]
          · clear o
            exact ⟨f, b, lk, (.slice o1 0 c1), (.slice o2 m c2), _, _, rfl, by rw [hn2]; exact e3, by rw [hn2]; exact e4, hP4, (by have := hm.out; omega), by omega, ⟨by omega, HFB.out⟩, ⟨_, by omega, e2⟩, e1.kp⟩
    · have hg8 : decide (0 < vx) = true := by simp; omega
      clear z8
      go_wp2_with fail
      refine (pick_any r _ _ _ (by repeat (first | assumption | apply Rd.alloc | apply Rd.drew | apply Rd.drewN | (refine Rd.setCell ?_ (by dsimp only; omega) _) | apply Rd.setCell | ((try dsimp only); omega))) (by omega) (by omega) (by omega)).mono ?_; rintro e wx ⟨vx, rfl, ux, lx, hRx, hKx⟩
      replace hF := Fr.call (by repeat (first | assumption | apply Fr.drew | apply Fr.drewN | apply Fr.alloc_1 | apply Fr.alloc_2 | apply Fr.alloc_3 | apply Fr.alloc_4 | apply Fr.alloc_5 | apply Fr.alloc_8 | apply Fr.set | (simp only [List.length_cons, List.length_nil, List.length_set]; omega) | (simp only [List.mem_cons, List.not_mem_nil, or_false, forall_eq_or_imp, forall_eq, ne_eq]; omega) | (simp only [World.size_alloc, World.size_setCell, World.size_drew]; omega) | omega)) hKx
      replace hP := hP.kp hKx (by omega)
      replace hM := hM.kp hKx (by omega)
      replace hR5 := hRx
      have hsx := hKx.size
      (try simp only [World.size_alloc, World.size_setCell, World.size_drew] at hsx)
      clear hRx
      replace HO2 := Lib.hid (Own.kp HO2.out hKx (by omega))
      clear hKx o
      obtain ⟨h5, hh5⟩ : ∃ h5 : Int, 1 + vx = h5 := ⟨_, rfl⟩
      obtain ⟨n5, hn5⟩ : ∃ n, wx.heap.size = n := ⟨_, rfl⟩
      have hO5 := (Own.lit 3 wx n5 1 encI [h5] (fun _ => rfl) (by omega) (by simp)).put' (E' := 3) (p := ⟨n3, 2, none⟩) (by simp [Value.ownBlock]; omega) (.slice (some ⟨n5, 0, none⟩) 1 1)
      rw [hn5] at hO5
      have hA5 : Apart (.slice (some ⟨n5, 0, none⟩) 1 1) (.slice o2 m c2) := fun g h1 h2 => by have := HO2.out.lt g h2; simp [Value.ownBlock] at h1; omega
      replace hA := hA5
      replace hF := hF.other (.cells #[.int .i64 h5] 3)
      have o := hF.own; simp only [World.size_alloc, World.size_drew, World.size_setCell, List.mem_cons, List.not_mem_nil, or_false, forall_eq_or_imp, forall_eq, At, and_true, Nat.zero_add, Nat.reduceAdd, List.set_cons_zero, List.set_cons_succ] at o
      go_wp2_with fail
      replace hF := hF.set 2 (.slice (some ⟨n5, 0, none⟩) 1 1) (by simp) (by simp; omega)
      replace hM := (hM.alloc (.cells #[.int .i64 h5] 3)).set (p := ⟨n3, 2, none⟩) (Or.inr rfl) (.slice (some ⟨n5, 0, none⟩) 1 1)
      replace HO2 := Lib.hid ((HO2.out.alloc (.cells #[.int .i64 h5] 3)).put' (E' := 3) (p := ⟨n3, 2, none⟩) (fun e => (hM.lo _ e).2 rfl) (.slice (some ⟨n5, 0, none⟩) 1 1))
      replace hR5 := (hR5.alloc (.cells #[.int .i64 h5] 3)).setCell (p := ⟨n3, 2, none⟩) hr3 (.slice (some ⟨n5, 0, none⟩) 1 1)
      replace hP : Rw _ n2 n3 (.slice (some ⟨n5, 0, none⟩) 1 1) [h5] := ⟨hO5.it, fun g hg => by simp [Value.ownBlock] at hg; omega, hO5.lt⟩
      replace hP4 : L4 [h5] := ⟨by simp, fun y hy => by rw [List.mem_singleton.1 hy]; unfold Bts; omega⟩
      clear hO5 hA5
      go_wp2_with fail
      refine (pick_any r _ _ _ (by repeat (first | assumption | apply Rd.alloc | apply Rd.drew | apply Rd.drewN | (refine Rd.setCell ?_ (by dsimp only; omega) _) | apply Rd.setCell | ((try dsimp only); omega))) (by omega) (by omega) (by omega)).mono ?_; rintro e wx ⟨vx, rfl, ux, lx, hRx, hKx⟩
      replace hF := Fr.call (by repeat (first | assumption | apply Fr.drew | apply Fr.drewN | apply Fr.alloc_1 | apply Fr.alloc_2 | apply Fr.alloc_3 | apply Fr.alloc_4 | apply Fr.alloc_5 | apply Fr.alloc_8 | apply Fr.set | (simp only [List.length_cons, List.length_nil, List.length_set]; omega) | (simp only [List.mem_cons, List.not_mem_nil, or_false, forall_eq_or_imp, forall_eq, ne_eq]; omega) | (simp only [World.size_alloc, World.size_setCell, World.size_drew]; omega) | omega)) hKx
      replace hP := hP.kp hKx (by omega)
      replace hM := hM.kp hKx (by omega)
      replace hR5 := hRx
      have hsx := hKx.size
      (try simp only [World.size_alloc, World.size_setCell, World.size_drew] at hsx)
      clear hRx
      replace HO2 := Lib.hid (Own.kp HO2.out hKx (by omega))
      clear hKx o
      have o := hF.own; simp only [World.size_alloc, World.size_drew, World.size_setCell, List.mem_cons, List.not_mem_nil, or_false, forall_eq_or_imp, forall_eq, At, and_true, Nat.zero_add, Nat.reduceAdd, List.set_cons_zero, List.set_cons_succ] at o
      by_cases z5 : vx = 0
      · subst z5
        clear HO2
        obtain ⟨n4, hn4⟩ : ∃ n, wx.heap.size = n := ⟨_, rfl⟩
        have hr4 := hR5.lt
        replace hF := hF.alloc [.int .i64 (-1), .int .i64 10, .int .i64 9] 3 hr4
        replace hP := hP.alloc (.cells #[.int .i64 (-1), .int .i64 10, .int .i64 9] 3)
        replace hM := hM.alloc (.cells #[.int .i64 (-1), .int .i64 10, .int .i64 9] 3)
        replace hR5 := hR5.alloc (.cells #[.int .i64 (-1), .int .i64 10, .int .i64 9] 3)
        rw [hn4] at hF hr4
        clear o
        have o := hF.own; simp only [World.size_alloc, World.size_drew, World.size_setCell, List.mem_cons, List.not_mem_nil, or_false, forall_eq_or_imp, forall_eq, At, and_true, Nat.zero_add, Nat.reduceAdd, List.set_cons_zero, List.set_cons_succ] at o
        go_wp2_with fail
        refine (pick_any r _ _ _ (by repeat (first | assumption | apply Rd.alloc | apply Rd.drew | apply Rd.drewN | (refine Rd.setCell ?_ (by dsimp only; omega) _) | apply Rd.setCell | ((try dsimp only); omega))) (by omega) (by omega) (by omega)).mono ?_; rintro e wx ⟨vx, rfl, ux, lx, hRx, hKx⟩
        replace hF := Fr.call (by repeat (first | assumption | apply Fr.drew | apply Fr.drewN | apply Fr.alloc_1 | apply Fr.alloc_2 | apply Fr.alloc_3 | apply Fr.alloc_4 | apply Fr.alloc_5 | apply Fr.alloc_8 | apply Fr.set | (simp only [List.length_cons, List.length_nil, List.length_set]; omega) | (simp only [List.mem_cons, List.not_mem_nil, or_false, forall_eq_or_imp, forall_eq, ne_eq]; omega) | (simp only [World.size_alloc, World.size_setCell, World.size_drew]; omega) | omega)) hKx
        replace hP := hP.kp hKx (by omega)
        replace hM := hM.kp hKx (by omega)
        replace hR5 := hRx
        have hsx := hKx.size
        (try simp only [World.size_alloc, World.size_setCell, World.size_drew] at hsx)
        clear hRx
        clear hKx o
        have o := hF.own; simp only [World.size_alloc, World.size_drew, World.size_setCell, List.mem_cons, List.not_mem_nil, or_false, forall_eq_or_imp, forall_eq, At, and_true, Nat.zero_add, Nat.reduceAdd, List.set_cons_zero, List.set_cons_succ] at o
        have hv3 : vx = 0 ∨ vx = 1 ∨ vx = 2 := by omega
        rcases hv3 with rfl | rfl | rfl
        · go_wp2_with fail
          obtain ⟨wz, hwz, e1, e2, e3, e4⟩ := (endR (u0 := .int .i64 f) (u1 := .int .i64 b) (u3 := .int .i64 (-1)) ((hF.rest).set 3 (.int .i64 (-1)) (by simp) (by simp; omega)).rest (hR5.setCell (p := ⟨n3, 3, none⟩) hr3 _) (hP.set (p := ⟨n3, 3, none⟩) (Or.inr rfl) _) (hM.set (p := ⟨n3, 3, none⟩) (Or.inr rfl) _) hr)
          rw [← hwz]
          clear hwz
          have o := e1.own; simp only [World.size_alloc, World.size_drew, World.size_setCell, List.mem_cons, List.not_mem_nil, or_false, forall_eq_or_imp, forall_eq, At, and_true, Nat.zero_add, Nat.reduceAdd, List.set_cons_zero, List.set_cons_succ] at o
          refine bodyPost_ret (v := .agg #[.int .i64 f, .int .i64 b, (.slice (some ⟨n5, 0, none⟩) 1 1), .int .i64 (-1), (.slice o2 m c2)]) ?_ rfl ?_
          · simp [results, Try.results49, go_sem, o]
          · clear o
            exact ⟨f, b, (-1), (.slice (some ⟨n5, 0, none⟩) 1 1), (.slice o2 m c2), _, _, rfl, by rw [hn2]; exact e3, by rw [hn2]; exact e4, hP4, (by have := hm.out; omega), by omega, ⟨by omega, HFB.out⟩, ⟨_, by omega, e2⟩, e1.kp⟩
        · go_wp2_with fail
          obtain ⟨wz, hwz, e1, e2, e3, e4⟩ := (endR (u0 := .int .i64 f) (u1 := .int .i64 b) (u3 := .int .i64 10) ((hF.rest).set 3 (.int .i64 10) (by simp) (by simp; omega)).rest (hR5.setCell (p := ⟨n3, 3, none⟩) hr3 _) (hP.set (p := ⟨n3, 3, none⟩) (Or.inr rfl) _) (hM.set (p := ⟨n3, 3, none⟩) (Or.inr rfl) _) hr)
          rw [← hwz]
          clear hwz
          have o := e1.own; simp only [World.size_alloc, World.size_drew, World.size_setCell, List.mem_cons, List.not_mem_nil, or_false, forall_eq_or_imp, forall_eq, At, and_true, Nat.zero_add, Nat.reduceAdd, List.set_cons_zero, List.set_cons_succ] at o
          refine bodyPost_ret (v := .agg #[.int .i64 f, .int .i64 b, (.slice (some ⟨n5, 0, none⟩) 1 1), .int .i64 10, (.slice o2 m c2)]) ?_ rfl ?_
          · simp [results, Try.results49, go_sem, o]
          · clear o
            exact ⟨f, b, 10, (.slice (some ⟨n5, 0, none⟩) 1 1), (.slice o2 m c2), _, _, rfl, by rw [hn2]; exact e3, by rw [hn2]; exact e4, hP4, (by have := hm.out; omega), by omega, ⟨by omega, HFB.out⟩, ⟨_, by omega, e2⟩, e1.kp⟩
        · go_wp2_with fail
          obtain ⟨wz, hwz, e1, e2, e3, e4⟩ := (endR (u0 := .int .i64 f) (u1 := .int .i64 b) (u3 := .int .i64 9) ((hF.rest).set 3 (.int .i64 9) (by simp) (by simp; omega)).rest (hR5.setCell (p := ⟨n3, 3, none⟩) hr3 _) (hP.set (p := ⟨n3, 3, none⟩) (Or.inr rfl) _) (hM.set (p := ⟨n3, 3, none⟩) (Or.inr rfl) _) hr)
          rw [← hwz]
          clear hwz
          have o := e1.own; simp only [World.size_alloc, World.size_drew, World.size_setCell, List.mem_cons, List.not_mem_nil, or_false, forall_eq_or_imp, forall_eq, At, and_true, Nat.zero_add, Nat.reduceAdd, List.set_cons_zero, List.set_cons_succ] at o
          refine bodyPost_ret (v := .agg #[.int .i64 f, .int .i64 b, (.slice (some ⟨n5, 0, none⟩) 1 1), .int .i64 9, (.slice o2 m c2)]) ?_ rfl ?_
          · simp [results, Try.results49, go_sem, o]
          · clear o
            exact ⟨f, b, 9, (.slice (some ⟨n5, 0, none⟩) 1 1), (.slice o2 m c2), _, _, rfl, by rw [hn2]; exact e3, by rw [hn2]; exact e4, hP4, (by have := hm.out; omega), by omega, ⟨by omega, HFB.out⟩, ⟨_, by omega, e2⟩, e1.kp⟩
      · have dz : (vx == 0) = false := by simp [z5]
        by_cases y5 : vx = 1
        · subst y5
          have hmm : M.length ≤ 9 := by have := hm.out; omega
          have tok1 : True := trivial
          go_wp2_with fail
          go_region_law (first
            | (clear tok1; go_simp; go_wp2_with (go_at_call 41; go_must (refine (pick_any r _ _ _ hR5.drew (by omega) (by omega) (by omega)).mono ?_); rintro e wy ⟨vx, rfl, ux, lx, hRx, hKx⟩; replace hF := hF.drew.call hKx; replace hP := hP.drew.kp hKx (by omega); replace hM := hM.drew.kp hKx (by omega); replace HO2 := Lib.hid (HO2.out.drew.kp hKx (by omega)); have hsy := hKx.size; (try simp only [World.size_drew] at hsy); replace hR5 := hRx; clear hRx hKx o; have o := hF.own; simp only [World.size_alloc, World.size_drew, World.size_setCell, List.mem_cons, List.not_mem_nil, or_false, forall_eq_or_imp, forall_eq, At, and_true, Nat.zero_add, Nat.reduceAdd, List.set_cons_zero, List.set_cons_succ] at o))
            | ((refine step_app (by rfl) _ _ _ (by rfl) 3 (.int .i64 0) 1 8 Try.underlying40 infoInt rfl (by decide) (by decide) w3.heap.size encI _ M rfl (HO2.out.alloc _) vx ⟨_, 0, none⟩ 1 rfl rfl (cells_new _ _ _) (by simp [encI, Value.oneCell']) (by omega) (by simp only [World.size_alloc]; omega) ?_; intro v9 wz hO9 hg9 hb9 hf9; have hF9 := Fr.grown (hF.other _) hg9 (fun g hg => by have := HO2.out.ge g hg; omega) (by intro p hp e; simp only [List.mem_cons, List.not_mem_nil, or_false] at hp; have := hM.lo p.1 e; rcases hp with rfl | rfl <;> simp at this <;> omega); have o9 := hF9.own; simp only [World.size_alloc, World.size_drew, World.size_setCell, List.mem_cons, List.not_mem_nil, or_false, forall_eq_or_imp, forall_eq, At, and_true, Nat.zero_add, Nat.reduceAdd, List.set_cons_zero, List.set_cons_succ] at o9; obtain ⟨g9, c9, n9, rfl, hn9, hl9⟩ : ∃ g c n, v9 = .slice (some ⟨g, 0, none⟩) n c ∧ n ≤ c ∧ Hid ((M ++ [vx]).length = n) := hO9.two.resolve_left (fun q => by simp at q))))
          all_goals
            have hP9 : Rw wz n2 n3 (.slice (some ⟨n5, 0, none⟩) 1 1) _ := ⟨⟨Rows.grown (hP.alloc _).it.1 hg9 hA, hP.it.2⟩, hP.lo, fun g hg => Nat.lt_of_lt_of_le ((hP.alloc _).hi g hg) hg9.size⟩
            have hM9 : Rw wz n2 n3 (.slice (some ⟨g9, 0, none⟩) n9 c9) (M ++ [vx]) := ⟨hO9.it, fun g hg => by
              rcases hf9 with e | ⟨g', e, hge⟩
              · rw [e] at hg; exact hM.lo g hg
              · rw [e] at hg; simp only [World.size_alloc] at hge; cases hg; omega, hO9.lt⟩
            have hR9 := (hR5.alloc _).below hb9 (by omega)
            clear hg9 hb9 hf9 hO9 o
            go_wp2_with fail
            obtain ⟨wz, hwz, e1, e2, e3, e4⟩ := (endR (u0 := .int .i64 f) (u1 := .int .i64 b) (u3 := .int .i64 lk) (hF9.set 4 (.slice (some ⟨g9, 0, none⟩) n9 c9) (by simp) (by simp; omega)).rest (hR9.setCell (p := ⟨n3, 4, none⟩) hr3 _) (hP9.set (p := ⟨n3, 4, none⟩) (Or.inr rfl) _) (hM9.set (p := ⟨n3, 4, none⟩) (Or.inr rfl) _) hr)
            rw [← hwz]
            clear hwz
            have o := e1.own; simp only [World.size_alloc, World.size_drew, World.size_setCell, List.mem_cons, List.not_mem_nil, or_false, forall_eq_or_imp, forall_eq, At, and_true, Nat.zero_add, Nat.reduceAdd, List.set_cons_zero, List.set_cons_succ] at o
            refine bodyPost_ret (v := .agg #[.int .i64 f, .int .i64 b, (.slice (some ⟨n5, 0, none⟩) 1 1), .int .i64 lk, (.slice (some ⟨g9, 0, none⟩) n9 c9)]) ?_ rfl ?_
            · simp [results, Try.results49, go_sem, o]
            · clear o
              exact ⟨f, b, lk, (.slice (some ⟨n5, 0, none⟩) 1 1), (.slice (some ⟨g9, 0, none⟩) n9 c9), _, _, rfl, by rw [hn2]; exact e3, by rw [hn2]; exact e4, hP4, (by simp; omega), by omega, ⟨by omega, HFB.out⟩, ⟨_, by omega, e2⟩, e1.kp⟩
        · have dy : (vx == 1) = false := by simp [y5]
          go_wp2_with fail
          obtain ⟨wz, hwz, e1, e2, e3, e4⟩ := (endR (u0 := .int .i64 f) (u1 := .int .i64 b) (u3 := .int .i64 lk) hF.rest hR5 hP hM hr)
          rw [← hwz]
          clear hwz
          have o := e1.own; simp only [World.size_alloc, World.size_drew, World.size_setCell, List.mem_cons, List.not_mem_nil, or_false, forall_eq_or_imp, forall_eq, At, and_true, Nat.zero_add, Nat.reduceAdd, List.set_cons_zero, List.set_cons_succ] at o
          refine bodyPost_ret (v := .agg #[.int .i64 f, .int .i64 b, (.slice (some ⟨n5, 0, none⟩) 1 1), .int .i64 lk, (.slice o2 m c2)]) ?_ rfl ?_
          · simp [results, Try.results49, go_sem, o]
          · clear o
            exact ⟨f, b, lk, (.slice (some ⟨n5, 0, none⟩) 1 1), (.slice o2 m c2), _, _, rfl, by rw [hn2]; exact e3, by rw [hn2]; exact e4, hP4, (by have := hm.out; omega), by omega, ⟨by omega, HFB.out⟩, ⟨_, by omega, e2⟩, e1.kp⟩
  · have dn : ((n : Int) == 0) = false := by simp [h0]
    go_wp2_with fail
    refine (pick_any r _ _ _ (by repeat (first | assumption | apply Rd.alloc | apply Rd.drew | apply Rd.drewN | (refine Rd.setCell ?_ (by dsimp only; omega) _) | apply Rd.setCell | ((try dsimp only); omega))) (by omega) (by omega) (by omega)).mono ?_; rintro e wx ⟨vx, rfl, ux, lx, hRx, hKx⟩
    replace hF := Fr.call (by repeat (first | assumption | apply Fr.drew | apply Fr.drewN | apply Fr.alloc_1 | apply Fr.alloc_2 | apply Fr.alloc_3 | apply Fr.alloc_4 | apply Fr.alloc_5 | apply Fr.alloc_8 | apply Fr.set | (simp only [List.length_cons, List.length_nil, List.length_set]; omega) | (simp only [List.mem_cons, List.not_mem_nil, or_false, forall_eq_or_imp, forall_eq, ne_eq]; omega) | (simp only [World.size_alloc, World.size_setCell, World.size_drew]; omega) | omega)) hKx
    replace hP := hP.kp hKx (by omega)
    replace hM := hM.kp hKx (by omega)
    replace hR5 := hRx
    have hsx := hKx.size
    (try simp only [World.size_alloc, World.size_setCell, World.size_drew] at hsx)
    clear hRx
    replace HO2 := Lib.hid (Own.kp HO2.out hKx (by omega))
    clear hKx o
    have o := hF.own; simp only [World.size_alloc, World.size_drew, World.size_setCell, List.mem_cons, List.not_mem_nil, or_false, forall_eq_or_imp, forall_eq, At, and_true, Nat.zero_add, Nat.reduceAdd, List.set_cons_zero, List.set_cons_succ] at o
    by_cases z5 : vx = 0
    · subst z5
      clear HO2
      obtain ⟨n4, hn4⟩ : ∃ n, wx.heap.size = n := ⟨_, rfl⟩
      have hr4 := hR5.lt
      replace hF := hF.alloc [.int .i64 (-1), .int .i64 10, .int .i64 9] 3 hr4
      replace hP := hP.alloc (.cells #[.int .i64 (-1), .int .i64 10, .int .i64 9] 3)
      replace hM := hM.alloc (.cells #[.int .i64 (-1), .int .i64 10, .int .i64 9] 3)
      replace hR5 := hR5.alloc (.cells #[.int .i64 (-1), .int .i64 10, .int .i64 9] 3)
      rw [hn4] at hF hr4
      clear o
      have o := hF.own; simp only [World.size_alloc, World.size_drew, World.size_setCell, List.mem_cons, List.not_mem_nil, or_false, forall_eq_or_imp, forall_eq, At, and_true, Nat.zero_add, Nat.reduceAdd, List.set_cons_zero, List.set_cons_succ] at o
      go_wp2_with fail
      refine (pick_any r _ _ _ (by repeat (first | assumption | apply Rd.alloc | apply Rd.drew | apply Rd.drewN | (refine Rd.setCell ?_ (by dsimp only; omega) _) | apply Rd.setCell | ((try dsimp only); omega))) (by omega) (by omega) (by omega)).mono ?_; rintro e wx ⟨vx, rfl, ux, lx, hRx, hKx⟩
      replace hF := Fr.call (by repeat (first | assumption | apply Fr.drew | apply Fr.drewN | apply Fr.alloc_1 | apply Fr.alloc_2 | apply Fr.alloc_3 | apply Fr.alloc_4 | apply Fr.alloc_5 | apply Fr.alloc_8 | apply Fr.set | (simp only [List.length_cons, List.length_nil, List.length_set]; omega) | (simp only [List.mem_cons, List.not_mem_nil, or_false, forall_eq_or_imp, forall_eq, ne_eq]; omega) | (simp only [World.size_alloc, World.size_setCell, World.size_drew]; omega) | omega)) hKx
      replace hP := hP.kp hKx (by omega)
      replace hM := hM.kp hKx (by omega)
      replace hR5 := hRx
      have hsx := hKx.size
      (try simp only [World.size_alloc, World.size_setCell, World.size_drew] at hsx)
      clear hRx
      clear hKx o
      have o := hF.own; simp only [World.size_alloc, World.size_drew, World.size_setCell, List.mem_cons, List.not_mem_nil, or_false, forall_eq_or_imp, forall_eq, At, and_true, Nat.zero_add, Nat.reduceAdd, List.set_cons_zero, List.set_cons_succ] at o
      have hv3 : vx = 0 ∨ vx = 1 ∨ vx = 2 := by omega
      rcases hv3 with rfl | rfl | rfl
      · go_wp2_with fail
        obtain ⟨wz, hwz, e1, e2, e3, e4⟩ := (endR (u0 := .int .i64 f) (u1 := .int .i64 b) (u3 := .int .i64 (-1)) ((hF.rest).set 3 (.int .i64 (-1)) (by simp) (by simp; omega)).rest (hR5.setCell (p := ⟨n3, 3, none⟩) hr3 _) (hP.set (p := ⟨n3, 3, none⟩) (Or.inr rfl) _) (hM.set (p := ⟨n3, 3, none⟩) (Or.inr rfl) _) hr)
        rw [← hwz]
        clear hwz
        have o := e1.own; simp only [World.size_alloc, World.size_drew, World.size_setCell, List.mem_cons, List.not_mem_nil, or_false, forall_eq_or_imp, forall_eq, At, and_true, Nat.zero_add, Nat.reduceAdd, List.set_cons_zero, List.set_cons_succ] at o
        refine bodyPost_ret (v := .agg #[.int .i64 f, .int .i64 b, (.slice o1 n c1), .int .i64 (-1), (.slice o2 m c2)]) ?_ rfl ?_
        · simp [results, Try.results49, go_sem, o]
        · clear o
          exact ⟨f, b, (-1), (.slice o1 n c1), (.slice o2 m c2), _, _, rfl, by rw [hn2]; exact e3, by rw [hn2]; exact e4, hP4, (by have := hm.out; omega), by omega, ⟨by omega, HFB.out⟩, ⟨_, by omega, e2⟩, e1.kp⟩
      · go_wp2_with fail
        obtain ⟨wz, hwz, e1, e2, e3, e4⟩ := (endR (u0 := .int .i64 f) (u1 := .int .i64 b) (u3 := .int .i64 10) ((hF.rest).set 3 (.int .i64 10) (by simp) (by simp; omega)).rest (hR5.setCell (p := ⟨n3, 3, none⟩) hr3 _) (hP.set (p := ⟨n3, 3, none⟩) (Or.inr rfl) _) (hM.set (p := ⟨n3, 3, none⟩) (Or.inr rfl) _) hr)
        rw [← hwz]
        clear hwz
        have o := e1.own; simp only [World.size_alloc, World.size_drew, World.size_setCell, List.mem_cons, List.not_mem_nil, or_false, forall_eq_or_imp, forall_eq, At, and_true, Nat.zero_add, Nat.reduceAdd, List.set_cons_zero, List.set_cons_succ] at o
        refine bodyPost_ret (v := .agg #[.int .i64 f, .int .i64 b, (.slice o1 n c1), .int .i64 10, (.slice o2 m c2)]) ?_ rfl ?_
        · simp [results, Try.results49, go_sem, o]
        · clear o
          exact ⟨f, b, 10, (.slice o1 n c1), (.slice o2 m c2), _, _, rfl, by rw [hn2]; exact e3, by rw [hn2]; exact e4, hP4, (by have := hm.out; omega), by omega, ⟨by omega, HFB.out⟩, ⟨_, by omega, e2⟩, e1.kp⟩
      · go_wp2_with fail
        obtain ⟨wz, hwz, e1, e2, e3, e4⟩ := (endR (u0 := .int .i64 f) (u1 := .int .i64 b) (u3 := .int .i64 9) ((hF.rest).set 3 (.int .i64 9) (by simp) (by simp; omega)).rest (hR5.setCell (p := ⟨n3, 3, none⟩) hr3 _) (hP.set (p := ⟨n3, 3, none⟩) (Or.inr rfl) _) (hM.set (p := ⟨n3, 3, none⟩) (Or.inr rfl) _) hr)
        rw [← hwz]
        clear hwz
        have o := e1.own; simp only [World.size_alloc, World.size_drew, World.size_setCell, List.mem_cons, List.not_mem_nil, or_false, forall_eq_or_imp, forall_eq, At, and_true, Nat.zero_add, Nat.reduceAdd, List.set_cons_zero, List.set_cons_succ] at o
        refine bodyPost_ret (v := .agg #[.int .i64 f, .int .i64 b, (.slice o1 n c1), .int .i64 9, (.slice o2 m c2)]) ?_ rfl ?_
        · simp [results, Try.results49, go_sem, o]
        · clear o
          exact ⟨f, b, 9, (.slice o1 n c1), (.slice o2 m c2), _, _, rfl, by rw [hn2]; exact e3, by rw [hn2]; exact e4, hP4, (by have := hm.out; omega), by omega, ⟨by omega, HFB.out⟩, ⟨_, by omega, e2⟩, e1.kp⟩
    · have dz : (vx == 0) = false := by simp [z5]
      by_cases y5 : vx = 1
      · subst y5
        have hmm : M.length ≤ 9 := by have := hm.out; omega
        have tok1 : True := trivial
        go_wp2_with fail
        go_region_law (first
          | (clear tok1; go_simp; go_wp2_with (go_at_call 41; go_must (refine (pick_any r _ _ _ hR5.drew (by omega) (by omega) (by omega)).mono ?_); rintro e wy ⟨vx, rfl, ux, lx, hRx, hKx⟩; replace hF := hF.drew.call hKx; replace hP := hP.drew.kp hKx (by omega); replace hM := hM.drew.kp hKx (by omega); replace HO2 := Lib.hid (HO2.out.drew.kp hKx (by omega)); have hsy := hKx.size; (try simp only [World.size_drew] at hsy); replace hR5 := hRx; clear hRx hKx o; have o := hF.own; simp only [World.size_alloc, World.size_drew, World.size_setCell, List.mem_cons, List.not_mem_nil, or_false, forall_eq_or_imp, forall_eq, At, and_true, Nat.zero_add, Nat.reduceAdd, List.set_cons_zero, List.set_cons_succ] at o))
          | ((refine step_app (by rfl) _ _ _ (by rfl) 3 (.int .i64 0) 1 8 Try.underlying40 infoInt rfl (by decide) (by decide) w3.heap.size encI _ M rfl (HO2.out.alloc _) vx ⟨_, 0, none⟩ 1 rfl rfl (cells_new _ _ _) (by simp [encI, Value.oneCell']) (by omega) (by simp only [World.size_alloc]; omega) ?_; intro v9 wz hO9 hg9 hb9 hf9; have hF9 := Fr.grown (hF.other _) hg9 (fun g hg => by have := HO2.out.ge g hg; omega) (by intro p hp e; simp only [List.mem_cons, List.not_mem_nil, or_false] at hp; have := hM.lo p.1 e; rcases hp with rfl | rfl <;> simp at this <;> omega); have o9 := hF9.own; simp only [World.size_alloc, World.size_drew, World.size_setCell, List.mem_cons, List.not_mem_nil, or_false, forall_eq_or_imp, forall_eq, At, and_true, Nat.zero_add, Nat.reduceAdd, List.set_cons_zero, List.set_cons_succ] at o9; obtain ⟨g9, c9, n9, rfl, hn9, hl9⟩ : ∃ g c n, v9 = .slice (some ⟨g, 0, none⟩) n c ∧ n ≤ c ∧ Hid ((M ++ [vx]).length = n) := hO9.two.resolve_left (fun q => by simp at q))))
        all_goals
          have hP9 : Rw wz n2 n3 (.slice o1 n c1) _ := ⟨⟨Rows.grown (hP.alloc _).it.1 hg9 hA, hP.it.2⟩, hP.lo, fun g hg => Nat.lt_of_lt_of_le ((hP.alloc _).hi g hg) hg9.size⟩
          have hM9 : Rw wz n2 n3 (.slice (some ⟨g9, 0, none⟩) n9 c9) (M ++ [vx]) := ⟨hO9.it, fun g hg => by
            rcases hf9 with e | ⟨g', e, hge⟩
            · rw [e] at hg; exact hM.lo g hg
            · rw [e] at hg; simp only [World.size_alloc] at hge; cases hg; omega, hO9.lt⟩
          have hR9 := (hR5.alloc _).below hb9 (by omega)
          clear hg9 hb9 hf9 hO9 o
          go_wp2_with fail
          obtain ⟨wz, hwz, e1, e2, e3, e4⟩ := (endR (u0 := .int .i64 f) (u1 := .int .i64 b) (u3 := .int .i64 lk) (hF9.set 4 (.slice (some ⟨g9, 0, none⟩) n9 c9) (by simp) (by simp; omega)).rest (hR9.setCell (p := ⟨n3, 4, none⟩) hr3 _) (hP9.set (p := ⟨n3, 4, none⟩) (Or.inr rfl) _) (hM9.set (p := ⟨n3, 4, none⟩) (Or.inr rfl) _) hr)
          rw [← hwz]
          clear hwz
          have o := e1.own; simp only [World.size_alloc, World.size_drew, World.size_setCell, List.mem_cons, List.not_mem_nil, or_false, forall_eq_or_imp, forall_eq, At, and_true, Nat.zero_add, Nat.reduceAdd, List.set_cons_zero, List.set_cons_succ] at o
          refine bodyPost_ret (v := .agg #[.int .i64 f, .int .i64 b, (.slice o1 n c1), .int .i64 lk, (.slice (some ⟨g9, 0, none⟩) n9 c9)]) ?_ rfl ?_
          · simp [results, Try.results49, go_sem, o]
          · clear o
            exact ⟨f, b, lk, (.slice o1 n c1), (.slice (some ⟨g9, 0, none⟩) n9 c9), _, _, rfl, by rw [hn2]; exact e3, by rw [hn2]; exact e4, hP4, (by simp; omega), by omega, ⟨by omega, HFB.out⟩, ⟨_, by omega, e2⟩, e1.kp⟩
      · have dy : (vx == 1) = false := by simp [y5]
        go_wp2_with fail
        obtain ⟨wz, hwz, e1, e2, e3, e4⟩ := (endR (u0 := .int .i64 f) (u1 := .int .i64 b) (u3 := .int .i64 lk) hF.rest hR5 hP hM hr)
        rw [← hwz]
        clear hwz
        have o := e1.own; simp only [World.size_alloc, World.size_drew, World.size_setCell, List.mem_cons, List.not_mem_nil, or_false, forall_eq_or_imp, forall_eq, At, and_true, Nat.zero_add, Nat.reduceAdd, List.set_cons_zero, List.set_cons_succ] at o
        refine bodyPost_ret (v := .agg #[.int .i64 f, .int .i64 b, (.slice o1 n c1), .int .i64 lk, (.slice o2 m c2)]) ?_ rfl ?_
        · simp [results, Try.results49, go_sem, o]
        · clear o
          exact ⟨f, b, lk, (.slice o1 n c1), (.slice o2 m c2), _, _, rfl, by rw [hn2]; exact e3, by rw [hn2]; exact e4, hP4, (by have := hm.out; omega), by omega, ⟨by omega, HFB.out⟩, ⟨_, by omega, e2⟩, e1.kp⟩
end Go.Proofs.Ytjkfnjjkjhggfaa
set_option linter.unusedSimpArgs false
set_option linter.unusedVariables false
namespace Go.Proofs.Ytjkfnjjkjhggfaa
open Go.RowKit

/-- A row of numbers behind r, and at none of the blocks of S. -/
structure Rz (w : World) (r : Nat) (S : List Nat) (v : Value) (L : List Int) : Prop where
  it : It w v L
  lo : ∀ g, v.ownBlock = some g → r < g ∧ g < w.heap.size
  off : ∀ p ∈ S, v.ownBlock ≠ some p
theorem Rz.kp {w w' : World} {r : Nat} {S : List Nat} {v : Value} {L : List Int} (h : Rz w r S v L) (K : Kp r w w') : Rz w' r S v L :=
  ⟨⟨Rows.kp h.it.1 K (B := r + 1) (fun g hg => by have := (h.lo g hg).1; omega) (Nat.lt_succ_self r), h.it.2⟩, fun g hg => ⟨(h.lo g hg).1, Nat.lt_of_lt_of_le (h.lo g hg).2 K.size⟩, h.off⟩
theorem Rz.below {w w' : World} {r : Nat} {S : List Nat} {v : Value} {L : List Int} (h : Rz w r S v L) (K : Below w.heap.size w w') : Rz w' r S v L :=
  ⟨h.it.below K, fun g hg => ⟨(h.lo g hg).1, Nat.lt_of_lt_of_le (h.lo g hg).2 K.size⟩, h.off⟩
theorem Rz.alloc {w : World} {r : Nat} {S : List Nat} {v : Value} {L : List Int} (h : Rz w r S v L) (o : Obj) : Rz (w.alloc o) r (w.heap.size :: S) v L :=
  have h' := h.below ((Below.refl _ _).alloc (Nat.le_refl _) o)
  ⟨h'.it, h'.lo, fun p hp e => by
    rcases List.mem_cons.1 hp with rfl | hp
    · have := (h.lo _ e).2; omega
    · exact h.off p hp e⟩
theorem Rz.drew {w : World} {r : Nat} {S : List Nat} {v : Value} {L : List Int} (h : Rz w r S v L) : Rz w.drew r S v L := h.below (Below.refl _ _).drew
theorem Rz.set {w : World} {r : Nat} {S : List Nat} {v : Value} {L : List Int} (h : Rz w r S v L) {p : Addr} (hp : p.block ∈ S) (u : Value) : Rz (w.setCell p u) r S v L :=
  ⟨⟨Rows.setO h.it.1 (h.off _ hp) u, h.it.2⟩, fun g hg => by simp only [World.size_setCell]; exact h.lo g hg, h.off⟩
theorem Lies.rz {w : World} {lo r : Nat} {v : Value} {L : List Int} (h : Lies w lo v L) (hr : r ≤ lo) (S : List Nat) (hS : ∀ p ∈ S, p ≤ lo) : Rz w r S v L :=
  ⟨h.1, fun g hg => ⟨Nat.lt_of_le_of_lt hr (h.2 g hg).1, (h.2 g hg).2⟩, fun p hp e => by have := h.2 _ e; have := hS p hp; omega⟩
theorem put5 {r n : Nat} {W w : World} {z0 z1 z2 z3 z4 : Value} {L : List (Nat × List Value)} (hF : Fr r W w ((n, [z0, z1, z2, z3, z4]) :: L)) (hL : ∀ q ∈ L, q.1 ≠ n) (u0 u1 u2 u3 u4 : Value) :
    ∃ w', w' = ((((w.setCell ⟨n, 0, none⟩ u0).setCell ⟨n, 1, none⟩ u1).setCell ⟨n, 2, none⟩ u2).setCell ⟨n, 3, none⟩ u3).setCell ⟨n, 4, none⟩ u4 ∧ Fr r W w' ((n, [u0, u1, u2, u3, u4]) :: L) ∧ ∀ S v K, n ∈ S → Rz w r S v K → Rz w' r S v K :=
  ⟨_, rfl, ((((hF.set 0 u0 (by simp) hL).set 1 u1 (by simp) hL).set 2 u2 (by simp) hL).set 3 u3 (by simp) hL).set 4 u4 (by simp) hL,
   fun S v K hn h => ((((h.set (p := ⟨n, 0, none⟩) hn u0).set (p := ⟨n, 1, none⟩) hn u1).set (p := ⟨n, 2, none⟩) hn u2).set (p := ⟨n, 3, none⟩) hn u3).set (p := ⟨n, 4, none⟩) hn u4⟩
end Go.Proofs.Ytjkfnjjkjhggfaa
set_option linter.unusedSimpArgs false
set_option linter.unusedVariables false
namespace Go.Proofs.Ytjkfnjjkjhggfaa
open Go Go.RowKit

theorem run_app_nil {P : Program} (w : World) (t ty E : TypeId) (i : TypeInfo) (ht : P.underlying t = some (.slice E)) (hi : P.info? E = some i) (g : Nat) :
    (Builtin.append_ #[t, t] ty #[.slice (some ⟨g, 0, none⟩) 0 0, .slice none 0 0]).run P w = .ok (.slice (some ⟨g, 0, none⟩) 0 0) w := by
  simp [Builtin.append_, run_underlying ht, sizeOf, typeInfo, hi, Builtin.lenOf, Builtin.firstCells, loadCells, loadCellsFrom, storeCells, Result.andThen]
theorem wpList_copy {P : Program} {ops : Array Oper} {rest : List Oper} {o : Oper} {a : Act} {w : World} {Q : Exit → Act → World → Prop} (hgd : o.guard = none) (s x : Operand) (t : TypeId)
    (ho : o.op = .call { callee := .builtin .append, args := #[s, x], argTypes := #[t, t] })
    (E : TypeId) (z : Value) (bytes : Nat) (ht : P.underlying t = some (.slice E)) (hI : (P.info? E).map (fun i => (i.zero, i.size, i.bytes)) = some (some z, 1, bytes)) (hzs : z.cells.size = 1) (hby : bytes ≤ 1000)
    (hs : a.eval s = .slice (some ⟨w.heap.size, 0, none⟩) 0 0) (v : Value) (K : List Int) (hx : a.eval x = v) (hK : It w v K) (hlen : K.length ≤ 1000000)
    (h : ∀ g c w', Own E w' w.heap.size (.slice (some ⟨g, 0, none⟩) K.length c) 1 encI K → Below w.heap.size w w' → wpList P ops Q rest (a.put o.dst (.slice (some ⟨g, 0, none⟩) K.length c)) w') : wpList P ops Q (o :: rest) a (w.alloc (.cells #[] E)) := by
  have hb0 := (Below.refl w.heap.size w).alloc (Nat.le_refl _) (.cells #[] E)
  have hO := Own.made (B := w.heap.size) E w 1 encI (Nat.le_refl _)
  have hI2 := hK.below hb0
  rcases hI2.2 with rfl | ⟨b, off, n, c, rfl⟩
  · have hk : K = [] := by
      obtain ⟨ao, cap, e, _⟩ := hI2.1.ex
      injection e with _ e
      exact List.length_eq_zero_iff.1 e.symm
    subst hk
    obtain ⟨i, hi, hz, hsize, hbytes⟩ := info_parts hI
    refine wpList_plain hgd fun K' hK' => ?_
    unfold Oper.wp execOp
    simp only [ho, resolve, invoke, builtin, Sem.run_bind, Sem.run_pure, Result.andThen_ok, List.map_toArray, List.map_cons, List.map_nil, hs, hx, run_app_nil _ t _ E i ht hi]
    exact hK' _ _ (h _ _ _ hO hb0)
  · refine wpList_apps hgd s x t ho E z 1 bytes ht hI hzs (by decide) hby w.heap.size encI (fun _ => rfl) (fun _ u hu => by simp [encI] at hu; subst hu; rfl) _ [] hs hO b off n c K hx hI2.1 (by
      obtain ⟨ao, cap, e, _⟩ := hI2.1.ex
      injection e with _ e; simp; omega) (by simp) fun v' w' h1 h2 h3 h4 h5 => ?_
    rw [List.nil_append] at h1
    rcases h1.two with ⟨q, -⟩ | ⟨g, cc, m, rfl, -, hm⟩
    · have := (h5.1 q).1; cases this
    · have hm' := hm.out
      subst hm'
      exact h _ _ _ h1 (hb0.trans h3)
end Go.Proofs.Ytjkfnjjkjhggfaa
