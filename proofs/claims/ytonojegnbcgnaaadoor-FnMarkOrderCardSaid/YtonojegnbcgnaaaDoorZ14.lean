/- A clone of a row of numbers. Routes marked. Routes marked by the program. -/
import Derived.Test.YtonojegnbcgnaaaDoorZ13
import Derived.Test.YtonojegnbcgnaaaDoorZ4
import Derived.Test.YtonojegnbcgnaaaDoorZ5
set_option linter.unusedSimpArgs false
set_option linter.unusedVariables false
namespace Go.Proofs.YtonojegnbcgnaaaDoor
open Go.RowKit

theorem slW_nil (a : Option Addr) (n c : Nat) (w : World) : (binOp .eql 25 (.slice a n c) (.slice none 0 0)).run Tryd.prog w = .ok (.bool a.isNone) w := Go.Lib.run_eql_slice_nil w 25 3 a n c 0 0 Tryd.underlying25
set_option maxRecDepth 100000 in
set_option maxHeartbeats 1000000 in
theorem CloneZ_any (v : Value) (L : List Int) (w : World) (hv : Ints w v L) (hl : L.length ≤ 3000000) :
    Calls Tryd.prog 80 #[v] w fun e w' => ∃ u, e = .returned u ∧ Own 3 w' w.heap.size u 1 encI L ∧ Below w.heap.size w w' := by
  obtain ⟨ao, c, rfl, h1, h2, h3⟩ := hv.ex
  have hnil := slW_nil ao L.length c
  cases ao with
  | none =>
    have hL : L = [] := by
      cases L with
      | nil => rfl
      | cons y L => obtain ⟨b, off, e, _⟩ := h3 0 y rfl; cases e
    subst hL
    clear hv h3 hnil
    have hnil := slW_nil none 0 c
    simp only [List.length_nil]
    go_enter Tryd.func80, Tryd.ntmps80
    go_wp2
    go_ret
    exact ⟨_, rfl, Own.nil _ _ _ _ _, Below.refl _ _⟩
  | some ad =>
    have hF := (Fb.start w).other (.cells #[] 3)
    have hO : Own 3 (w.alloc (.cells #[] 3)) w.heap.size (.slice (some ⟨w.heap.size, 0, none⟩) 0 0) 1 encI [] := Own.made _ _ _ _ _ (Nat.le_refl _)
    have hV := Lib.hid (Rows.alloc hv (.cells #[] 3))
    clear hv h3
    go_enter Tryd.func80, Tryd.ntmps80
    go_wp2_with (at_builtin; go_must (refine wpList_appsZ rfl _ _ 25 rfl 3 (.int .i64 0) 1 8 Tryd.underlying25 infoInt rfl (by decide) (by decide) w.heap.size encI (fun _ => rfl) _ [] rfl hO (.slice (some ad) L.length c) L (fun _ _ u hu => by simp [encI] at hu; subst hu; rfl) rfl hV.out (by simp only [List.length_nil]; omega) (by simp) ?_); intro v' wx hO1 hg1 hb1 hf1; rw [List.nil_append] at hO1; replace hF := hF.belowB hb1 (Nat.le_refl _) (by simp))
    go_ret
    exact ⟨_, rfl, hO1, hF.kp⟩
end Go.Proofs.YtonojegnbcgnaaaDoor
set_option linter.unusedSimpArgs false
set_option linter.unusedVariables false
namespace Go.Proofs.YtonojegnbcgnaaaDoor
open Go.RowKit

set_option maxHeartbeats 2000000 in
theorem copyRoute_any (f b lk : Int) (pv mv : Value) (P M : List Int) (w : World) (hp : Ints w pv P) (hm : Ints w mv M) (hP : P.length ≤ 3000000) (hM : M.length ≤ 3000000) :
    Calls Tryd.prog 43 #[.agg #[.int .i64 f, .int .i64 b, pv, .int .i64 lk, mv]] w fun e w' => ∃ (pv' mv' : Value), e = .returned (.agg #[.int .i64 f, .int .i64 b, pv', .int .i64 lk, mv']) ∧ Own 3 w' w.heap.size pv' 1 encI P ∧ Own 3 w' w.heap.size mv' 1 encI M ∧ Apart pv' mv' ∧ Below w.heap.size w w' := by
  obtain ⟨o1, c1, rfl, -⟩ := hp.ex
  obtain ⟨o2, c2, rfl, -⟩ := hm.ex
  obtain ⟨n, hn⟩ : ∃ n, Hid (P.length = n) := ⟨_, rfl⟩
  obtain ⟨m, hm0⟩ : ∃ m, Hid (M.length = m) := ⟨_, rfl⟩
  rw [hn.out] at hp ⊢
  rw [hm0.out] at hm ⊢
  have HP := Lib.hid hp
  have HM := Lib.hid hm
  have HPl := Lib.hid hP
  have HMl := Lib.hid hM
  clear hp hm hP hM
  have hF := ((Fr.start (w.heap.size + 2) w).alloc' [.int .i64 f, .int .i64 b, .slice o1 n c1, .int .i64 lk, .slice o2 m c2] 27 (by omega)).alloc' [.int .i64 0, .int .i64 0, .slice none 0 0, .int .i64 0, .slice none 0 0] 27 (by simp)
  simp only [World.size_alloc] at hF
  obtain ⟨n1, hn1⟩ : ∃ n, w.heap.size = n := ⟨_, rfl⟩
  rw [hn1] at hF
  have HN := Lib.hid hn1
  have tok1 : True := trivial
  have hb0 := hF.kp.below (B := w.heap.size) (by omega) (Nat.le_refl _)
  have h1 := HP.out.below hb0
  have h2 := HM.out.below hb0
  have hz := hF.kp.size
  clear hb0
  have o := hF.own; simp only [World.size_alloc, World.size_drew, World.size_setCell, List.mem_cons, List.not_mem_nil, or_false, forall_eq_or_imp, forall_eq, At, and_true, Nat.zero_add, Nat.reduceAdd, List.set_cons_zero, List.set_cons_succ] at o
  go_enter Tryd.func43, Tryd.ntmps43
  go_wp2_with fail
  go_region_with (first
    | (go_at_call 80; clear tok1; go_must (refine (CloneZ_any (.slice o1 n c1) P _ ?_ HPl.out).mono ?_); (first | with_reducible exact h1 | with_reducible exact Rows.drew h1); rintro e wx ⟨u1, rfl, hU1, hbx⟩; obtain ⟨a1, k1, rfl⟩ := hU1.sl; have hs1 := hbx.size; (try simp only [World.size_drew, World.size_alloc] at hs1); replace h2 := Rows.below (by first | with_reducible exact h2 | with_reducible exact Rows.drew h2) hbx; replace hF := Fr.below (by repeat (first | assumption | apply Fr.drew | apply Fr.drewN | apply Fr.alloc_1 | apply Fr.alloc_2 | apply Fr.alloc_3 | apply Fr.alloc_4 | apply Fr.alloc_5 | apply Fr.alloc_8 | apply Fr.set | (simp only [List.length_cons, List.length_nil, List.length_set]; omega) | (simp only [List.mem_cons, List.not_mem_nil, or_false, forall_eq_or_imp, forall_eq, ne_eq]; omega) | (simp only [World.size_alloc, World.size_setCell, World.size_drew]; omega) | omega)) hbx; clear hbx o h1; have o := hF.own; simp only [World.size_alloc, World.size_drew, World.size_setCell, List.mem_cons, List.not_mem_nil, or_false, forall_eq_or_imp, forall_eq, At, and_true, Nat.zero_add, Nat.reduceAdd, List.set_cons_zero, List.set_cons_succ] at o)
    | (go_at_call 80; go_must (refine (CloneZ_any (.slice o2 m c2) M _ ?_ HMl.out).mono ?_); (first | with_reducible exact h2 | with_reducible exact Rows.drew h2); rintro e wx ⟨u2, rfl, hU2, hbx⟩; obtain ⟨a2, k2, rfl⟩ := hU2.sl; have hL1 := hU1.lt; replace hU1 := Own.below (by repeat (first | assumption | apply Own.alloc | apply Own.drew | (refine Own.set ?_ (by dsimp only; omega) _))) hbx; replace hF := Fr.below (by repeat (first | assumption | apply Fr.drew | apply Fr.drewN | apply Fr.alloc_1 | apply Fr.alloc_2 | apply Fr.alloc_3 | apply Fr.alloc_4 | apply Fr.alloc_5 | apply Fr.alloc_8 | apply Fr.set | (simp only [List.length_cons, List.length_nil, List.length_set]; omega) | (simp only [List.mem_cons, List.not_mem_nil, or_false, forall_eq_or_imp, forall_eq, ne_eq]; omega) | (simp only [World.size_alloc, World.size_setCell, World.size_drew]; omega) | omega)) hbx; clear hbx o h2; have o := hF.own; simp only [World.size_alloc, World.size_drew, World.size_setCell, List.mem_cons, List.not_mem_nil, or_false, forall_eq_or_imp, forall_eq, At, and_true, Nat.zero_add, Nat.reduceAdd, List.set_cons_zero, List.set_cons_succ] at o))
  all_goals
    have hA := apart_lt hL1 hU2.ge
    replace hU1 := Own.base (B := n1 + 2) hU1 (by simp only [World.size_drew, World.size_alloc]; omega)
    replace hU2 := Own.base (B := n1 + 2) hU2 (by omega)
    replace hU1 := (hU1.set (a := ⟨n1, 2, none⟩) (by dsimp only; omega) (.slice a1 P.length k1)).set (a := ⟨n1, 4, none⟩) (by dsimp only; omega) (.slice a2 M.length k2)
    replace hU2 := (hU2.set (a := ⟨n1, 2, none⟩) (by dsimp only; omega) (.slice a1 P.length k1)).set (a := ⟨n1, 4, none⟩) (by dsimp only; omega) (.slice a2 M.length k2)
    have hF2 := ((hF.swap.set 2 (.slice a1 P.length k1) (by simp) (by simp)).set 4 (.slice a2 M.length k2) (by simp) (by simp)).swap
    clear hF o hL1
    have hF := hF2
    clear hF2
    have o := hF.own; simp only [World.size_alloc, World.size_drew, World.size_setCell, List.mem_cons, List.not_mem_nil, or_false, forall_eq_or_imp, forall_eq, At, and_true, Nat.zero_add, Nat.reduceAdd, List.set_cons_zero, List.set_cons_succ] at o
    go_wp2_with fail
    obtain ⟨wz, hwz, e1, -⟩ := put5 hF (by simp) (.int .i64 f) (.int .i64 b) (.slice a1 P.length k1) (.int .i64 lk) (.slice a2 M.length k2)
    replace hU1 := hU1.put5 (n := n1 + 1) (by omega) (.int .i64 f) (.int .i64 b) (.slice a1 P.length k1) (.int .i64 lk) (.slice a2 M.length k2)
    replace hU2 := hU2.put5 (n := n1 + 1) (by omega) (.int .i64 f) (.int .i64 b) (.slice a1 P.length k1) (.int .i64 lk) (.slice a2 M.length k2)
    rw [← hwz] at hU1 hU2 ⊢
    clear hwz o hF
    have hF := e1
    have o := hF.own; simp only [World.size_alloc, World.size_drew, World.size_setCell, List.mem_cons, List.not_mem_nil, or_false, forall_eq_or_imp, forall_eq, At, and_true, Nat.zero_add, Nat.reduceAdd, List.set_cons_zero, List.set_cons_succ] at o
    refine bodyPost_ret (v := .agg #[.int .i64 f, .int .i64 b, .slice a1 P.length k1, .int .i64 lk, .slice a2 M.length k2]) ?_ rfl ?_
    · simp [results, Tryd.results43, go_sem, o]
    · exact ⟨_, _, rfl, hU1.base (by omega), hU2.base (by omega), hA, e1.kp.below (by omega) (Nat.le_refl _)⟩
end Go.Proofs.YtonojegnbcgnaaaDoor
set_option linter.unusedSimpArgs false
set_option linter.unusedVariables false
namespace Go.Proofs.YtonojegnbcgnaaaDoor
open Go.RowKit

theorem Fb.swp {W w : World} {x y : Nat × List Value} {L : List (Nat × List Value)} (h : Fb W w (x :: y :: L)) : Fb W w (y :: x :: L) := h.sub fun p hp => by
  simp only [List.mem_cons] at hp ⊢
  rcases hp with h | h | h <;> simp [h]
theorem Fb.grownR {W w w' : World} {L : List (Nat × List Value)} {row : Option Nat} (h : Fb W w L) (hg : w.grownBy w' row) (hW : ∀ g, row = some g → W.heap.size ≤ g) (hL : ∀ p ∈ L, row ≠ some p.1) : Fb W w' L :=
  ⟨⟨hg.os.trans h.kp.os, hg.tape.trans h.kp.tape, hg.output.trans h.kp.output, Nat.le_trans h.kp.size hg.size, fun i hi => (hg.block i (Nat.lt_of_lt_of_le hi h.kp.size) (fun e => by have := hW i e.symm; omega)).trans (h.kp.block i hi)⟩, fun p hp => by
    obtain ⟨h1, h2, h3⟩ := h.own p hp
    have hne : some p.1 ≠ row := fun e => hL p hp e.symm
    exact ⟨At.move (fun o v hv => (hg.cell_far ⟨p.1, o, none⟩ h3 hne).trans hv) (fun o v _ => hg.frozen_far ⟨p.1, o, none⟩ h3 hne) _ _ h1, h2, Nat.lt_of_lt_of_le h3 hg.size⟩⟩
theorem put5b {n : Nat} {W w : World} {z0 z1 z2 z3 z4 : Value} {L : List (Nat × List Value)} (hF : Fb W w ((n, [z0, z1, z2, z3, z4]) :: L)) (hL : ∀ q ∈ L, q.1 ≠ n) (u0 u1 u2 u3 u4 : Value) :
    ∃ w', w' = ((((w.setCell ⟨n, 0, none⟩ u0).setCell ⟨n, 1, none⟩ u1).setCell ⟨n, 2, none⟩ u2).setCell ⟨n, 3, none⟩ u3).setCell ⟨n, 4, none⟩ u4 ∧ Fb W w' ((n, [u0, u1, u2, u3, u4]) :: L) :=
  ⟨_, rfl, ((((hF.set 0 u0 (by simp) hL).set 1 u1 (by simp) hL).set 2 u2 (by simp) hL).set 3 u3 (by simp) hL).set 4 u4 (by simp) hL⟩
theorem frsh_ne {w : World} {v u : Value} {n : Nat} (hf : Frsh w v u) (hv : v.ownBlock ≠ some n) (hn : n < w.heap.size) : u.ownBlock ≠ some n := fun e => by
  rcases hf with h | ⟨g, h, hg⟩
  · rw [h] at e; exact hv e
  · rw [h] at e; injection e with e; omega
set_option maxRecDepth 100000 in
set_option maxHeartbeats 4000000 in
theorem iRouteMark_ok (f b lk m : Int) (pv mv : Value) (P M : List Int) (a : Addr) (w : World) (hp : Ints w pv P) (hm : Ints w mv M) (hE : EPath w a) (hok : RtOk f b P lk M) (hb : Bts m 1 9) :
    Calls Tryd.prog 13 #[.agg #[.int .i64 f, .int .i64 b, pv, .int .i64 lk, mv], .int .i64 m] w fun e w' => ∃ (pv' mv' : Value), e = .returned (.tuple #[.agg #[.int .i64 f, .int .i64 b, pv', .int .i64 lk, mv'], .bool true]) ∧ Ints w' pv' P ∧ Ints w' mv' (mki m M) ∧ Below w.heap.size w w' := by
  have HM9 := Lib.hid (mok_len hok.2.2.2.2)
  have HMp := Lib.hid (mok_pair hok.2.2.2.2)
  have HPl := Lib.hid (pok_len hok.2.2.1)
  have d1 := Lib.hid (decide_eq_true hok)
  have d2 := Lib.hid (decide_eq_true hb)
  obtain ⟨o1, c1, rfl, -⟩ := hp.ex
  obtain ⟨o2, c2, rfl, -⟩ := hm.ex
  have hF := ((Fb.start w).alloc [.int .i64 f, .int .i64 b, .slice o1 P.length c1, .int .i64 lk, .slice o2 M.length c2] 27).alloc [.int .i64 0, .int .i64 0, .slice none 0 0, .int .i64 0, .slice none 0 0] 27
  have hsz := hF.kp.size
  replace hp := Rows.below hp hF.kp
  replace hm := Rows.below hm hF.kp
  replace hE := hE.below hF.kp
  simp only [World.size_alloc] at hF hsz
  obtain ⟨n1, hn1⟩ : ∃ n, w.heap.size = n := ⟨_, rfl⟩
  rw [hn1] at hF
  clear hok hb
  have o := hF.own; simp only [World.size_alloc, World.size_drew, World.size_setCell, List.mem_cons, List.not_mem_nil, or_false, forall_eq_or_imp, forall_eq, At, and_true, Nat.zero_add, Nat.reduceAdd, List.set_cons_zero, List.set_cons_succ] at o
  go_enter Tryd.func13, Tryd.ntmps13
  go_upto_region 3 with (first
    | (go_at_call 20; go_must (refine (iRouteOk_any f b lk _ _ P M a _ hp hm hE).mono ?_); rintro e wx ⟨rfl, hbx⟩; rw [d1.out]; replace hF := hF.below hbx; replace hp := Rows.below hp hbx; replace hm := Rows.below hm hbx; have hs1 := hbx.size; simp only [World.size_alloc] at hs1; clear hbx hE o; have o := hF.own; simp only [World.size_alloc, World.size_drew, World.size_setCell, List.mem_cons, List.not_mem_nil, or_false, forall_eq_or_imp, forall_eq, At, and_true, Nat.zero_add, Nat.reduceAdd, List.set_cons_zero, List.set_cons_succ] at o)
    | (go_at_call 42; go_must (refine (isMark_any m _).mono ?_); rintro e wx ⟨rfl, hbx⟩; rw [d2.out]; replace hF := hF.below hbx; replace hp := Rows.below hp hbx; replace hm := Rows.below hm hbx; have hs2 := hbx.size; clear hbx o; have o := hF.own; simp only [World.size_alloc, World.size_drew, World.size_setCell, List.mem_cons, List.not_mem_nil, or_false, forall_eq_or_imp, forall_eq, At, and_true, Nat.zero_add, Nat.reduceAdd, List.set_cons_zero, List.set_cons_succ] at o))
  go_wp2_with fail
  refine (copyRoute_any f b lk _ _ P M _ hp hm (by have := HPl.out; omega) (by have := HM9.out; omega)).mono ?_; rintro e w3 ⟨pv3, mv3, rfl, hU1, hU2, hA, hb3⟩
  obtain ⟨a1, k1, rfl⟩ := hU1.sl
  obtain ⟨a2, k2, rfl⟩ := hU2.sl
  have hs3 := hb3.size
  replace hU1 := Own.base (B := n1 + 2) hU1 (by omega)
  replace hU2 := Own.base (B := n1 + 2) hU2 (by omega)
  have hl1 := hU1.lt
  have hl2 := hU2.lt
  replace hF := (hF.below hb3).alloc [.int .i64 f, .int .i64 b, .slice a1 P.length k1, .int .i64 lk, .slice a2 M.length k2] 27
  replace hU1 := hU1.alloc (.cells #[.int .i64 f, .int .i64 b, .slice a1 P.length k1, .int .i64 lk, .slice a2 M.length k2] 27)
  replace hU2 := hU2.alloc (.cells #[.int .i64 f, .int .i64 b, .slice a1 P.length k1, .int .i64 lk, .slice a2 M.length k2] 27)
  obtain ⟨n3, hn3⟩ : ∃ n, w3.heap.size = n := ⟨_, rfl⟩
  rw [hn3] at hF hl1 hl2
  clear hb3 o hp hm
  have o := hF.own; simp only [World.size_alloc, World.size_drew, World.size_setCell, List.mem_cons, List.not_mem_nil, or_false, forall_eq_or_imp, forall_eq, At, and_true, Nat.zero_add, Nat.reduceAdd, List.set_cons_zero, List.set_cons_succ] at o
  go_wp2_with fail
  refine (searchI_any _ M m _ hU2.ints HMp.out (by have := HM9.out; omega)).mono ?_; rintro e w4 ⟨k, rfl, hk, hbs, hb4⟩
  replace hF := hF.below hb4
  replace hU1 := hU1.below hb4
  replace hU2 := hU2.below hb4
  have hs4 := hb4.size
  simp only [World.size_alloc] at hs4
  have HBS := Lib.hid hbs
  clear hb4 o hbs
  have o := hF.own; simp only [World.size_alloc, World.size_drew, World.size_setCell, List.mem_cons, List.not_mem_nil, or_false, forall_eq_or_imp, forall_eq, At, and_true, Nat.zero_add, Nat.reduceAdd, List.set_cons_zero, List.set_cons_succ] at o
  by_cases hmm : m ∈ M
  · have d3 : decide (m ∈ M) = true := decide_eq_true hmm
    have hMk : Hid (mki m M = M) := mki_has HMp.out hmm
    clear hmm
    replace hF := hF.swp
    clear o
    have o := hF.own; simp only [World.size_alloc, World.size_drew, World.size_setCell, List.mem_cons, List.not_mem_nil, or_false, forall_eq_or_imp, forall_eq, At, and_true, Nat.zero_add, Nat.reduceAdd, List.set_cons_zero, List.set_cons_succ] at o
    go_wp2_with fail
    obtain ⟨wz, hwz, e1⟩ := put5b hF (by simp; omega) (.int .i64 f) (.int .i64 b) (.slice a1 P.length k1) (.int .i64 lk) (.slice a2 M.length k2)
    replace hU1 := hU1.put5 (n := n1 + 1) (by omega) (.int .i64 f) (.int .i64 b) (.slice a1 P.length k1) (.int .i64 lk) (.slice a2 M.length k2)
    replace hU2 := hU2.put5 (n := n1 + 1) (by omega) (.int .i64 f) (.int .i64 b) (.slice a1 P.length k1) (.int .i64 lk) (.slice a2 M.length k2)
    rw [← hwz] at hU1 hU2 ⊢
    clear hwz o hF
    have hF := e1
    have o := hF.own; simp only [World.size_alloc, World.size_drew, World.size_setCell, List.mem_cons, List.not_mem_nil, or_false, forall_eq_or_imp, forall_eq, At, and_true, Nat.zero_add, Nat.reduceAdd, List.set_cons_zero, List.set_cons_succ] at o
    refine bodyPost_ret (v := .tuple #[.agg #[.int .i64 f, .int .i64 b, .slice a1 P.length k1, .int .i64 lk, (.slice a2 M.length k2)], .bool true]) ?_ rfl ?_
    · simp [results, Tryd.results13, go_sem, o]
    · exact ⟨_, _, rfl, hU1.ints, by first | exact hU2.ints | (rw [hMk.out]; exact hU2.ints), e1.kp⟩
  · have d3 : decide (m ∈ M) = false := decide_eq_false hmm
    have hMk : Hid (mki m M = M.take k ++ m :: M.drop k) := mki_at HMp.out (bsi_take HBS.out) (fun x hx => by
      have h1 := bsi_drop HBS.out x hx
      have h2 : x ≠ m := fun e => hmm (by rw [← e]; exact List.mem_of_mem_drop hx)
      omega)
    clear hmm
    go_wp2_with fail
    have hbe : (w4.alloc (.cells #[.int .i64 m] 3)).heap[w4.heap.size]? = some (.cells #[.int .i64 m] 3 (0, 0)) := heap_alloc_new w4 _
    have hne : (Value.slice a2 M.length k2).ownBlock ≠ some w4.heap.size := fun e => by have := hl2 _ e; omega
    refine (InsI_any _ M k m (n1 + 2) w4.heap.size _ (hU2.alloc (.cells #[.int .i64 m] 3)) hk (by have := HM9.out; omega) (by simp only [World.size_alloc]; omega) hbe hne).mono ?_; rintro e w5 ⟨u, rfl, hO, hb5, hg5, hf5⟩
    have hu := frsh_ne (n := n3) hf5 (fun e => by have := hl2 _ e; omega) (by simp only [World.size_alloc]; omega)
    replace hF := (hF.other (.cells #[.int .i64 m] 3)).grownR hg5 (fun g hg => by have := hU2.ge g hg; omega) (fun p hp e => by
      have e1 := hU2.ge _ e
      have e2 := hl2 _ e
      simp only [List.mem_cons, List.not_mem_nil, or_false] at hp
      rcases hp with rfl | rfl | rfl <;> simp at e1 e2 <;> omega)
    replace hU1 := (hU1.alloc (.cells #[.int .i64 m] 3)).grown hg5 hA
    have hMl : (M.take k ++ m :: M.drop k).length ≤ 1000 := by have := HM9.out; simp; omega
    obtain ⟨a5, k5, rfl⟩ := hO.sl
    obtain ⟨n5, hn5⟩ : ∃ n, Hid ((M.take k ++ m :: M.drop k).length = n) := ⟨_, rfl⟩
    rw [hn5.out] at hO hu ⊢
    clear o
    have o := hF.own; simp only [World.size_alloc, World.size_drew, World.size_setCell, List.mem_cons, List.not_mem_nil, or_false, forall_eq_or_imp, forall_eq, At, and_true, Nat.zero_add, Nat.reduceAdd, List.set_cons_zero, List.set_cons_succ] at o
    have o5 := o
    have hU2 := hO.put' (E' := 3) (p := ⟨n3, 4, none⟩) hu (.slice a5 n5 k5)
    replace hU1 := hU1.put' (E' := 3) (p := ⟨n3, 4, none⟩) (fun e => by have := hl1 _ e; dsimp only at this; omega) (.slice a5 n5 k5)
    replace hF := (hF.set 4 (.slice a5 n5 k5) (by simp) (by simp; omega)).swp
    clear o hO hb5 hg5 hf5 hbe hne
    have o := hF.own; simp only [World.size_alloc, World.size_drew, World.size_setCell, List.mem_cons, List.not_mem_nil, or_false, forall_eq_or_imp, forall_eq, At, and_true, Nat.zero_add, Nat.reduceAdd, List.set_cons_zero, List.set_cons_succ] at o
    go_wp2_with fail
    obtain ⟨wz, hwz, e1⟩ := put5b hF (by simp; omega) (.int .i64 f) (.int .i64 b) (.slice a1 P.length k1) (.int .i64 lk) (.slice a5 n5 k5)
    replace hU1 := hU1.put5 (n := n1 + 1) (by omega) (.int .i64 f) (.int .i64 b) (.slice a1 P.length k1) (.int .i64 lk) (.slice a5 n5 k5)
    replace hU2 := hU2.put5 (n := n1 + 1) (by omega) (.int .i64 f) (.int .i64 b) (.slice a1 P.length k1) (.int .i64 lk) (.slice a5 n5 k5)
    rw [← hwz] at hU1 hU2 ⊢
    clear hwz o hF
    have hF := e1
    have o := hF.own; simp only [World.size_alloc, World.size_drew, World.size_setCell, List.mem_cons, List.not_mem_nil, or_false, forall_eq_or_imp, forall_eq, At, and_true, Nat.zero_add, Nat.reduceAdd, List.set_cons_zero, List.set_cons_succ] at o
    refine bodyPost_ret (v := .tuple #[.agg #[.int .i64 f, .int .i64 b, .slice a1 P.length k1, .int .i64 lk, (.slice a5 n5 k5)], .bool true]) ?_ rfl ?_
    · simp [results, Tryd.results13, go_sem, o]
    · exact ⟨_, _, rfl, hU1.ints, by first | exact hU2.ints | (rw [hMk.out]; exact hU2.ints), e1.kp⟩
set_option maxRecDepth 100000 in
set_option maxHeartbeats 4000000 in
theorem iRouteMark_no (f b lk m : Int) (pv mv : Value) (P M : List Int) (a : Addr) (w : World) (hp : Ints w pv P) (hm : Ints w mv M) (hE : EPath w a) (hno : ¬ (RtOk f b P lk M ∧ Bts m 1 9)) :
    Calls Tryd.prog 13 #[.agg #[.int .i64 f, .int .i64 b, pv, .int .i64 lk, mv], .int .i64 m] w fun e w' => e = .returned (.tuple #[.agg #[.int .i64 0, .int .i64 0, .slice none 0 0, .int .i64 0, .slice none 0 0], .bool false]) ∧ Below w.heap.size w w' := by
  obtain ⟨o1, c1, rfl, -⟩ := hp.ex
  obtain ⟨o2, c2, rfl, -⟩ := hm.ex
  have hF := ((Fb.start w).alloc [.int .i64 f, .int .i64 b, .slice o1 P.length c1, .int .i64 lk, .slice o2 M.length c2] 27).alloc [.int .i64 0, .int .i64 0, .slice none 0 0, .int .i64 0, .slice none 0 0] 27
  have hsz := hF.kp.size
  replace hp := Rows.below hp hF.kp
  replace hm := Rows.below hm hF.kp
  replace hE := hE.below hF.kp
  simp only [World.size_alloc] at hF hsz
  obtain ⟨n1, hn1⟩ : ∃ n, w.heap.size = n := ⟨_, rfl⟩
  rw [hn1] at hF
  have o := hF.own; simp only [World.size_alloc, World.size_drew, World.size_setCell, List.mem_cons, List.not_mem_nil, or_false, forall_eq_or_imp, forall_eq, At, and_true, Nat.zero_add, Nat.reduceAdd, List.set_cons_zero, List.set_cons_succ] at o
  by_cases hok : RtOk f b P lk M
  · have d1 := Lib.hid (decide_eq_true hok)
    have d2 := Lib.hid (decide_eq_false (fun g : Bts m 1 9 => hno ⟨hok, g⟩))
    clear hno hok
    go_enter Tryd.func13, Tryd.ntmps13
    go_upto_region 2 with (first
      | (go_at_call 20; go_must (refine (iRouteOk_any f b lk _ _ P M a _ hp hm hE).mono ?_); rintro e wx ⟨rfl, hbx⟩; rw [d1.out]; replace hF := hF.below hbx; clear hbx o hp hm hE; have o := hF.own; simp only [World.size_alloc, World.size_drew, World.size_setCell, List.mem_cons, List.not_mem_nil, or_false, forall_eq_or_imp, forall_eq, At, and_true, Nat.zero_add, Nat.reduceAdd, List.set_cons_zero, List.set_cons_succ] at o)
      | (go_at_call 42; go_must (refine (isMark_any m _).mono ?_); rintro e wx ⟨rfl, hbx⟩; rw [d2.out]; replace hF := hF.below hbx; clear hbx o; have o := hF.own; simp only [World.size_alloc, World.size_drew, World.size_setCell, List.mem_cons, List.not_mem_nil, or_false, forall_eq_or_imp, forall_eq, At, and_true, Nat.zero_add, Nat.reduceAdd, List.set_cons_zero, List.set_cons_succ] at o))
    go_wp2_with fail
    obtain ⟨wz, hwz, e1⟩ := put5b hF (by simp) (.int .i64 0) (.int .i64 0) (.slice none 0 0) (.int .i64 0) (.slice none 0 0)
    rw [← hwz]
    clear hwz o hF
    have hF := e1
    have o := hF.own; simp only [World.size_alloc, World.size_drew, World.size_setCell, List.mem_cons, List.not_mem_nil, or_false, forall_eq_or_imp, forall_eq, At, and_true, Nat.zero_add, Nat.reduceAdd, List.set_cons_zero, List.set_cons_succ] at o
    refine bodyPost_ret (v := .tuple #[.agg #[.int .i64 0, .int .i64 0, .slice none 0 0, .int .i64 0, .slice none 0 0], .bool false]) ?_ rfl ?_
    · simp [results, Tryd.results13, go_sem, o]
    · exact ⟨rfl, e1.kp⟩
  · have d1 := Lib.hid (decide_eq_false hok)
    clear hno hok
    go_enter Tryd.func13, Tryd.ntmps13
    go_upto_region 2 with (go_at_call 20; go_must (refine (iRouteOk_any f b lk _ _ P M a _ hp hm hE).mono ?_); rintro e wx ⟨rfl, hbx⟩; rw [d1.out]; replace hF := hF.below hbx; clear hbx o hp hm hE; have o := hF.own; simp only [World.size_alloc, World.size_drew, World.size_setCell, List.mem_cons, List.not_mem_nil, or_false, forall_eq_or_imp, forall_eq, At, and_true, Nat.zero_add, Nat.reduceAdd, List.set_cons_zero, List.set_cons_succ] at o)
    go_wp2_with fail
    obtain ⟨wz, hwz, e1⟩ := put5b hF (by simp) (.int .i64 0) (.int .i64 0) (.slice none 0 0) (.int .i64 0) (.slice none 0 0)
    rw [← hwz]
    clear hwz o hF
    have hF := e1
    have o := hF.own; simp only [World.size_alloc, World.size_drew, World.size_setCell, List.mem_cons, List.not_mem_nil, or_false, forall_eq_or_imp, forall_eq, At, and_true, Nat.zero_add, Nat.reduceAdd, List.set_cons_zero, List.set_cons_succ] at o
    refine bodyPost_ret (v := .tuple #[.agg #[.int .i64 0, .int .i64 0, .slice none 0 0, .int .i64 0, .slice none 0 0], .bool false]) ?_ rfl ?_
    · simp [results, Tryd.results13, go_sem, o]
    · exact ⟨rfl, e1.kp⟩
set_option maxRecDepth 100000 in
set_option maxHeartbeats 4000000 in
theorem sRouteMark_no (f b lk m : Int) (pv mv : Value) (P M : List Int) (w : World) (hp : Ints w pv P) (hm : Ints w mv M) (hno : ¬ (RtOk f b P lk M ∧ Bts m 1 9)) :
    Calls Tryd.prog 12 #[.agg #[.int .i64 f, .int .i64 b, pv, .int .i64 lk, mv], .int .i64 m] w fun e w' => e = .returned (.tuple #[.agg #[.int .i64 0, .int .i64 0, .slice none 0 0, .int .i64 0, .slice none 0 0], .bool false]) ∧ Below w.heap.size w w' := by
  obtain ⟨o1, c1, rfl, -⟩ := hp.ex
  obtain ⟨o2, c2, rfl, -⟩ := hm.ex
  have hF := ((Fb.start w).alloc [.int .i64 f, .int .i64 b, .slice o1 P.length c1, .int .i64 lk, .slice o2 M.length c2] 27).alloc [.int .i64 0, .int .i64 0, .slice none 0 0, .int .i64 0, .slice none 0 0] 27
  have hsz := hF.kp.size
  replace hp := Rows.below hp hF.kp
  replace hm := Rows.below hm hF.kp
  simp only [World.size_alloc] at hF hsz
  obtain ⟨n1, hn1⟩ : ∃ n, w.heap.size = n := ⟨_, rfl⟩
  rw [hn1] at hF
  have o := hF.own; simp only [World.size_alloc, World.size_drew, World.size_setCell, List.mem_cons, List.not_mem_nil, or_false, forall_eq_or_imp, forall_eq, At, and_true, Nat.zero_add, Nat.reduceAdd, List.set_cons_zero, List.set_cons_succ] at o
  by_cases hok : RtOk f b P lk M
  · have d1 := Lib.hid (decide_eq_true hok)
    have d2 := Lib.hid (decide_eq_false (fun g : Bts m 1 9 => hno ⟨hok, g⟩))
    clear hno hok
    go_enter Tryd.func12, Tryd.ntmps12
    go_upto_region 2 with (first
      | (go_at_call 38; go_must (refine (sRouteOk_any f b lk _ _ P M _ hp hm).mono ?_); rintro e wx ⟨rfl, hbx⟩; rw [d1.out]; replace hF := hF.below hbx; clear hbx o hp hm; have o := hF.own; simp only [World.size_alloc, World.size_drew, World.size_setCell, List.mem_cons, List.not_mem_nil, or_false, forall_eq_or_imp, forall_eq, At, and_true, Nat.zero_add, Nat.reduceAdd, List.set_cons_zero, List.set_cons_succ] at o)
      | (go_at_call 39; go_must (refine (l6In_any m _ _ _).mono ?_); rintro e wx ⟨rfl, hbx⟩; rw [d2.out]; replace hF := hF.below hbx; clear hbx o; have o := hF.own; simp only [World.size_alloc, World.size_drew, World.size_setCell, List.mem_cons, List.not_mem_nil, or_false, forall_eq_or_imp, forall_eq, At, and_true, Nat.zero_add, Nat.reduceAdd, List.set_cons_zero, List.set_cons_succ] at o))
    go_wp2_with fail
    obtain ⟨wz, hwz, e1⟩ := put5b hF (by simp) (.int .i64 0) (.int .i64 0) (.slice none 0 0) (.int .i64 0) (.slice none 0 0)
    rw [← hwz]
    clear hwz o hF
    have hF := e1
    have o := hF.own; simp only [World.size_alloc, World.size_drew, World.size_setCell, List.mem_cons, List.not_mem_nil, or_false, forall_eq_or_imp, forall_eq, At, and_true, Nat.zero_add, Nat.reduceAdd, List.set_cons_zero, List.set_cons_succ] at o
    refine bodyPost_ret (v := .tuple #[.agg #[.int .i64 0, .int .i64 0, .slice none 0 0, .int .i64 0, .slice none 0 0], .bool false]) ?_ rfl ?_
    · simp [results, Tryd.results12, go_sem, o]
    · exact ⟨rfl, e1.kp⟩
  · have d1 := Lib.hid (decide_eq_false hok)
    clear hno hok
    go_enter Tryd.func12, Tryd.ntmps12
    go_upto_region 2 with (go_at_call 38; go_must (refine (sRouteOk_any f b lk _ _ P M _ hp hm).mono ?_); rintro e wx ⟨rfl, hbx⟩; rw [d1.out]; replace hF := hF.below hbx; clear hbx o hp hm; have o := hF.own; simp only [World.size_alloc, World.size_drew, World.size_setCell, List.mem_cons, List.not_mem_nil, or_false, forall_eq_or_imp, forall_eq, At, and_true, Nat.zero_add, Nat.reduceAdd, List.set_cons_zero, List.set_cons_succ] at o)
    go_wp2_with fail
    obtain ⟨wz, hwz, e1⟩ := put5b hF (by simp) (.int .i64 0) (.int .i64 0) (.slice none 0 0) (.int .i64 0) (.slice none 0 0)
    rw [← hwz]
    clear hwz o hF
    have hF := e1
    have o := hF.own; simp only [World.size_alloc, World.size_drew, World.size_setCell, List.mem_cons, List.not_mem_nil, or_false, forall_eq_or_imp, forall_eq, At, and_true, Nat.zero_add, Nat.reduceAdd, List.set_cons_zero, List.set_cons_succ] at o
    refine bodyPost_ret (v := .tuple #[.agg #[.int .i64 0, .int .i64 0, .slice none 0 0, .int .i64 0, .slice none 0 0], .bool false]) ?_ rfl ?_
    · simp [results, Tryd.results12, go_sem, o]
    · exact ⟨rfl, e1.kp⟩
theorem Rows.put5 {w : World} {v : Value} {L : List Int} (h : Ints w v L) {n : Nat} (hn : v.ownBlock ≠ some n) (u0 u1 u2 u3 u4 : Value) : Ints (((((w.setCell ⟨n, 0, Option.none⟩ u0).setCell ⟨n, 1, Option.none⟩ u1).setCell ⟨n, 2, Option.none⟩ u2).setCell ⟨n, 3, Option.none⟩ u3).setCell ⟨n, 4, Option.none⟩ u4) v L :=
  Rows.setO (Rows.setO (Rows.setO (Rows.setO (Rows.setO h (p := ⟨n, 0, Option.none⟩) hn u0) (p := ⟨n, 1, Option.none⟩) hn u1) (p := ⟨n, 2, Option.none⟩) hn u2) (p := ⟨n, 3, Option.none⟩) hn u3) (p := ⟨n, 4, Option.none⟩) hn u4
set_option maxRecDepth 100000 in
set_option maxHeartbeats 4000000 in
theorem sRouteMark_ok (f b lk m : Int) (pv mv : Value) (P M : List Int) (w : World) (hpI : It w pv P) (hmI : It w mv M) (hok : RtOk f b P lk M) (hb : Bts m 1 9) :
    Calls Tryd.prog 12 #[.agg #[.int .i64 f, .int .i64 b, pv, .int .i64 lk, mv], .int .i64 m] w fun e w' => ∃ (pv' mv' : Value), e = .returned (.tuple #[.agg #[.int .i64 f, .int .i64 b, pv', .int .i64 lk, mv'], .bool true]) ∧ Ints w' pv' P ∧ Ints w' mv' (mki m M) ∧ Below w.heap.size w w' := by
  have HM9 := Lib.hid (mok_len hok.2.2.2.2)
  have HMp := Lib.hid (mok_pair hok.2.2.2.2)
  have HPl := Lib.hid (pok_len hok.2.2.1)
  have d1 := Lib.hid (decide_eq_true hok)
  have d2 := Lib.hid (decide_eq_true hb)
  have hp := hpI.1
  have hm := hmI.1
  obtain ⟨o1, c1, rfl, -⟩ := hp.ex
  obtain ⟨o2, c2, rfl, -⟩ := hm.ex
  have hF := ((Fb.start w).alloc [.int .i64 f, .int .i64 b, .slice o1 P.length c1, .int .i64 lk, .slice o2 M.length c2] 27).alloc [.int .i64 0, .int .i64 0, .slice none 0 0, .int .i64 0, .slice none 0 0] 27
  have hsz := hF.kp.size
  replace hp := Rows.below hp hF.kp
  replace hm := Rows.below hm hF.kp
  replace hpI := It.below hpI hF.kp
  replace hmI := It.below hmI hF.kp
  simp only [World.size_alloc] at hF hsz
  obtain ⟨n1, hn1⟩ : ∃ n, w.heap.size = n := ⟨_, rfl⟩
  rw [hn1] at hF
  clear hok hb
  have o := hF.own; simp only [World.size_alloc, World.size_drew, World.size_setCell, List.mem_cons, List.not_mem_nil, or_false, forall_eq_or_imp, forall_eq, At, and_true, Nat.zero_add, Nat.reduceAdd, List.set_cons_zero, List.set_cons_succ] at o
  go_enter Tryd.func12, Tryd.ntmps12
  go_upto_region 3 with (first
    | (go_at_call 38; go_must (refine (sRouteOk_any f b lk _ _ P M _ hp hm).mono ?_); rintro e wx ⟨rfl, hbx⟩; rw [d1.out]; replace hF := hF.below hbx; replace hp := Rows.below hp hbx; replace hm := Rows.below hm hbx; replace hpI := It.below hpI hbx; replace hmI := It.below hmI hbx; have hs1 := hbx.size; simp only [World.size_alloc] at hs1; clear hbx o; have o := hF.own; simp only [World.size_alloc, World.size_drew, World.size_setCell, List.mem_cons, List.not_mem_nil, or_false, forall_eq_or_imp, forall_eq, At, and_true, Nat.zero_add, Nat.reduceAdd, List.set_cons_zero, List.set_cons_succ] at o)
    | (go_at_call 39; go_must (refine (l6In_any m _ _ _).mono ?_); rintro e wx ⟨rfl, hbx⟩; rw [d2.out]; replace hF := hF.below hbx; replace hp := Rows.below hp hbx; replace hm := Rows.below hm hbx; replace hpI := It.below hpI hbx; replace hmI := It.below hmI hbx; have hs2 := hbx.size; clear hbx o; have o := hF.own; simp only [World.size_alloc, World.size_drew, World.size_setCell, List.mem_cons, List.not_mem_nil, or_false, forall_eq_or_imp, forall_eq, At, and_true, Nat.zero_add, Nat.reduceAdd, List.set_cons_zero, List.set_cons_succ] at o))
  go_wp2_with fail
  refine (l4Copy_any f b lk _ _ P M _ hpI hmI (by have := HPl.out; omega) (by have := HM9.out; omega)).mono ?_; rintro e w3 ⟨pv3, mv3, rfl, hU1, hU2, hb3⟩
  obtain ⟨⟨i1, -⟩, l1⟩ := hU1
  obtain ⟨⟨i2, -⟩, l2⟩ := hU2
  obtain ⟨a1, k1, rfl, -⟩ := i1.ex
  obtain ⟨a2, k2, rfl, -⟩ := i2.ex
  have hs3 := hb3.size
  replace hF := (hF.below hb3).alloc [.int .i64 f, .int .i64 b, .slice a1 P.length k1, .int .i64 lk, .slice a2 M.length k2] 27
  have hbq := hb3.alloc hs3 (.cells #[.int .i64 f, .int .i64 b, .slice a1 P.length k1, .int .i64 lk, .slice a2 M.length k2] 27)
  replace hm := Rows.below hm hbq
  replace hU1 := Rows.alloc i1 (.cells #[.int .i64 f, .int .i64 b, .slice a1 P.length k1, .int .i64 lk, .slice a2 M.length k2] 27)
  obtain ⟨n3, hn3⟩ : ∃ n, w3.heap.size = n := ⟨_, rfl⟩
  rw [hn3] at hF
  clear hb3 o hp hpI hmI i1 i2 l2 hbq
  have o := hF.own; simp only [World.size_alloc, World.size_drew, World.size_setCell, List.mem_cons, List.not_mem_nil, or_false, forall_eq_or_imp, forall_eq, At, and_true, Nat.zero_add, Nat.reduceAdd, List.set_cons_zero, List.set_cons_succ] at o
  go_wp2_with fail
  refine (l4Mark_any _ M m _ hm HMp.out (by have := HM9.out; omega)).mono ?_; rintro e w5 ⟨u, rfl, hO, hb5⟩
  replace hF := hF.below hb5
  replace hU1 := Rows.below hU1 hb5
  simp only [World.size_alloc] at hO
  have hs5 := hb5.size
  simp only [World.size_alloc] at hs5
  obtain ⟨a5, k5, rfl⟩ := hO.sl
  obtain ⟨n5, hn5⟩ : ∃ n, Hid ((mki m M).length = n) := ⟨_, rfl⟩
  rw [hn5.out] at hO ⊢
  clear o
  have o := hF.own; simp only [World.size_alloc, World.size_drew, World.size_setCell, List.mem_cons, List.not_mem_nil, or_false, forall_eq_or_imp, forall_eq, At, and_true, Nat.zero_add, Nat.reduceAdd, List.set_cons_zero, List.set_cons_succ] at o
  have o5 := o
  have hU2 := hO.set (a := ⟨n3, 4, none⟩) (by dsimp only; omega) (.slice a5 n5 k5)
  have hq1 : (Value.slice a1 P.length k1).ownBlock ≠ some (n1 + 1) := fun e => by have := l1 _ e; omega
  replace hU1 := Rows.setO hU1 (p := ⟨n3, 4, none⟩) (fun e => by have := l1 _ e; dsimp only at this; omega) (.slice a5 n5 k5)
  replace hF := (hF.set 4 (.slice a5 n5 k5) (by simp) (by simp; omega)).swp
  clear o hO hb5 hm l1
  have o := hF.own; simp only [World.size_alloc, World.size_drew, World.size_setCell, List.mem_cons, List.not_mem_nil, or_false, forall_eq_or_imp, forall_eq, At, and_true, Nat.zero_add, Nat.reduceAdd, List.set_cons_zero, List.set_cons_succ] at o
  go_wp2_with fail
  obtain ⟨wz, hwz, e1⟩ := put5b hF (by simp; omega) (.int .i64 f) (.int .i64 b) (.slice a1 P.length k1) (.int .i64 lk) (.slice a5 n5 k5)
  replace hU1 := Rows.put5 hU1 hq1 (.int .i64 f) (.int .i64 b) (.slice a1 P.length k1) (.int .i64 lk) (.slice a5 n5 k5)
  replace hU2 := hU2.put5 (n := n1 + 1) (by omega) (.int .i64 f) (.int .i64 b) (.slice a1 P.length k1) (.int .i64 lk) (.slice a5 n5 k5)
  rw [← hwz] at hU1 hU2 ⊢
  clear hwz o o5 hF
  have hF := e1
  have o := hF.own; simp only [World.size_alloc, World.size_drew, World.size_setCell, List.mem_cons, List.not_mem_nil, or_false, forall_eq_or_imp, forall_eq, At, and_true, Nat.zero_add, Nat.reduceAdd, List.set_cons_zero, List.set_cons_succ] at o
  refine bodyPost_ret (v := .tuple #[.agg #[.int .i64 f, .int .i64 b, .slice a1 P.length k1, .int .i64 lk, .slice a5 n5 k5], .bool true]) ?_ rfl ?_
  · simp [results, Tryd.results12, go_sem, o]
  · exact ⟨_, _, rfl, hU1, hU2.ints, e1.kp⟩
end Go.Proofs.YtonojegnbcgnaaaDoor
