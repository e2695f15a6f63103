/- The seals that the program makes of a route. A seal of a route, by its place. The seals of a route, by the model. -/
import Derived.Test.YtiocomefkckbfaaDoorZ10
import Derived.IntWalk
import Derived.Deep.AppendLies
set_option linter.unusedSimpArgs false
set_option linter.unusedVariables false
namespace Go.Proofs.YtiocomefkckbfaaDoor
open Go.RowKit

theorem tvAt_succ {ti x : Int} {P : List Int} {k : Nat} (h : P[k]? = some x) : x = tvAt ti P (k + 1) := by unfold tvAt; rw [if_neg (by omega)]; simp [List.getD, h]
theorem sAt_eq {ti f n tv x : Int} {P : List Int} {k : Nat} (h : P[k]? = some x) (ht : tv = tvAt ti P k) : sAt ti f n P k = (x, tv, f, n, P.drop k) := by unfold sAt; rw [getD_of h, ht]
set_option maxRecDepth 100000 in
set_option maxHeartbeats 8000000 in
theorem iSealMake_any (g c lk : Int) (pv mv : Value) (P M : List Int) (ti : Int) (a : Addr) (w : World) (hp : Ints w pv P) (hm : Ints w mv M) (hE : EPath w a) (hP : P.length ≤ 1000) :
    Calls Tryd.prog 16 #[.agg #[.int .i64 g, .int .i64 c, pv, .int .i64 lk, mv], .int .i64 ti] w fun e w' => ∃ u, e = .returned u ∧ SOwn w' w.heap.size u (sealsOf ti g c lk P M) ∧ Below w.heap.size w w' := by
  obtain ⟨o1, c1, rfl, hnc, hcc, -⟩ := hp.ex
  obtain ⟨o2, c2, rfl, -⟩ := hm.ex
  have HP0 := Lib.hid hp
  have hF := (Fb.start w).alloc [.int .i64 g, .int .i64 c, .slice o1 P.length c1, .int .i64 lk, .slice o2 M.length c2] 35
  replace hp := Rows.below hp hF.kp
  replace hm := Rows.below hm hF.kp
  replace hE := hE.below hF.kp
  have o := hF.own; simp only [World.size_alloc, World.size_drew, World.size_setCell, List.mem_cons, List.not_mem_nil, or_false, forall_eq_or_imp, forall_eq, At, and_true, Nat.zero_add, Nat.reduceAdd, List.set_cons_zero, List.set_cons_succ] at o
  go_enter Tryd.func16, Tryd.ntmps16
  by_cases k1 : RtOk g c P lk M
  · have d1 : decide (RtOk g c P lk M) = true := by simp [k1]
    by_cases k2 : Bts ti 1 5
    · have d2 : decide (Bts ti 1 5) = true := by simp [k2]
      by_cases k3 : Has P ti
      · have d3 : decide (Has P ti) = true := by simp [k3]
        have hr : Hid (sealsOf ti g c lk P M = []) := if_neg fun q => q.2.2 k3.2
        clear k1 k2 k3
        go_wp2_with (first | (go_at_call 38; go_must (refine (iRouteOk_any g c lk _ _ P M a _ hp hm hE).mono ?_); rintro e wx ⟨rfl, hbx⟩; replace hF := hF.below hbx; replace hp := Rows.below hp hbx; replace hm := Rows.below hm hbx; replace hE := hE.below hbx; clear hbx o; have o := hF.own; simp only [World.size_alloc, World.size_drew, World.size_setCell, List.mem_cons, List.not_mem_nil, or_false, forall_eq_or_imp, forall_eq, At, and_true, Nat.zero_add, Nat.reduceAdd, List.set_cons_zero, List.set_cons_succ] at o) | (go_at_call 39; go_must (refine (isHouse_any ti _).mono ?_); rintro e wx ⟨rfl, hbx⟩; replace hF := hF.below hbx; replace hp := Rows.below hp hbx; replace hm := Rows.below hm hbx; replace hE := hE.below hbx; clear hbx o; have o := hF.own; simp only [World.size_alloc, World.size_drew, World.size_setCell, List.mem_cons, List.not_mem_nil, or_false, forall_eq_or_imp, forall_eq, At, and_true, Nat.zero_add, Nat.reduceAdd, List.set_cons_zero, List.set_cons_succ] at o) | (go_at_call 40; go_must (refine (iPathHas_any _ P ti a _ hp hE).mono ?_); rintro e wx ⟨rfl, hbx⟩; replace hF := hF.below hbx; replace hp := Rows.below hp hbx; replace hm := Rows.below hm hbx; replace hE := hE.below hbx; clear hbx o; have o := hF.own; simp only [World.size_alloc, World.size_drew, World.size_setCell, List.mem_cons, List.not_mem_nil, or_false, forall_eq_or_imp, forall_eq, At, and_true, Nat.zero_add, Nat.reduceAdd, List.set_cons_zero, List.set_cons_succ] at o))
        go_ret
        exact ⟨_, rfl, by rw [hr.out]; exact SOwn.nil _ _, hF.kp⟩
      · have d3 : decide (Has P ti) = false := by simp [k3]
        have hr : Hid (sealsOf ti g c lk P M = mkN ti g c P P.length) := if_pos ⟨k1, k2, fun q => k3 ⟨k1.2.2.1, q⟩⟩
        obtain ⟨b, off, rfl⟩ := Ints.some hp k1.2.1
        clear k1 k2 k3
        go_wp2_with (first | (go_at_call 38; go_must (refine (iRouteOk_any g c lk _ _ P M a _ hp hm hE).mono ?_); rintro e wx ⟨rfl, hbx⟩; replace hF := hF.below hbx; replace hp := Rows.below hp hbx; replace hm := Rows.below hm hbx; replace hE := hE.below hbx; clear hbx o; have o := hF.own; simp only [World.size_alloc, World.size_drew, World.size_setCell, List.mem_cons, List.not_mem_nil, or_false, forall_eq_or_imp, forall_eq, At, and_true, Nat.zero_add, Nat.reduceAdd, List.set_cons_zero, List.set_cons_succ] at o) | (go_at_call 39; go_must (refine (isHouse_any ti _).mono ?_); rintro e wx ⟨rfl, hbx⟩; replace hF := hF.below hbx; replace hp := Rows.below hp hbx; replace hm := Rows.below hm hbx; replace hE := hE.below hbx; clear hbx o; have o := hF.own; simp only [World.size_alloc, World.size_drew, World.size_setCell, List.mem_cons, List.not_mem_nil, or_false, forall_eq_or_imp, forall_eq, At, and_true, Nat.zero_add, Nat.reduceAdd, List.set_cons_zero, List.set_cons_succ] at o) | (go_at_call 40; go_must (refine (iPathHas_any _ P ti a _ hp hE).mono ?_); rintro e wx ⟨rfl, hbx⟩; replace hF := hF.below hbx; replace hp := Rows.below hp hbx; replace hm := Rows.below hm hbx; replace hE := hE.below hbx; clear hbx o; have o := hF.own; simp only [World.size_alloc, World.size_drew, World.size_setCell, List.mem_cons, List.not_mem_nil, or_false, forall_eq_or_imp, forall_eq, At, and_true, Nat.zero_add, Nat.reduceAdd, List.set_cons_zero, List.set_cons_succ] at o))
        go_loopw [1, 5, 25] (fun t o i wr => ∃ (k : Nat) (tv : Int), k ≤ P.length ∧ t = .int .i64 tv ∧ i = .int .i64 k ∧ Hid (tv = tvAt ti P k) ∧ SOwn wr (w.heap.size + 1) o (mkN ti g c P k) ∧ Fb w wr [(w.heap.size, [.int .i64 g, .int .i64 c, .slice (some ⟨b, off, none⟩) P.length c1, .int .i64 lk, .slice o2 M.length c2])] ∧ w.heap.size + 1 ≤ wr.heap.size) (fun _ _ i _ => P.length - (intOf i).toNat)
        case atStart => exact ⟨0, ti, Nat.zero_le _, rfl, rfl, rfl, SOwn.nil _ _, hF, by have := hF.own _ (List.mem_cons_self ..); have := this.2.2; dsimp only at this; omega⟩
        case round =>
          clear hF hp hm hE o
          obtain ⟨k, tv, hk, rfl, rfl, htv, hS, hF, hsz⟩ := hrel
          by_cases hlt : k < P.length
          · obtain ⟨x, hx⟩ := get_lt hlt
            have HX := Lib.hid hx
            clear hx
            have hV := Rows.below HP0.out hF.kp
            have c0 := Ints.get hV HX.out
            have o := hF.own; simp only [World.size_alloc, World.size_drew, World.size_setCell, List.mem_cons, List.not_mem_nil, or_false, forall_eq_or_imp, forall_eq, At, and_true, Nat.zero_add, Nat.reduceAdd, List.set_cons_zero, List.set_cons_succ] at o
            go_upto_region 7 with (fail)
            obtain ⟨wb, rfl⟩ : ∃ wb : World, wb = wr := ⟨_, rfl⟩
            obtain ⟨ds, hO, hR⟩ := hS
            have hQ := Fb.start wb
            have HV := Lib.hid hV
            have HO := Lib.hid hO
            have HR := Lib.hid hR
            have HF := Lib.hid hF
            have HC := Lib.hid (show wb.cell? ⟨w.heap.size, 0, none⟩ = some (.int .i64 g) ∧ wb.cell? ⟨w.heap.size, 1, none⟩ = some (.int .i64 c) ∧ wb.cell? ⟨w.heap.size, 2, none⟩ = some (.slice (some ⟨b, off, none⟩) P.length c1) by simp [o])
            have hlv := hO.lt
            have g0 : (0 : Int) ≤ (k : Int) := by omega
            have g1 : (k : Int) ≤ (P.length : Int) := by omega
            have g2 : (k : Int) ≤ (c1 : Int) := by omega
            have g3 : ¬ c1 = k := by omega
            have g4 : IntKind.i64.wrap (k : Int) = (k : Int) := IntWalk.i64_in _ (by omega)
            have tok1 : True := trivial
            have q0 := HC.out.1
            have q1 := HC.out.2.1
            have q2 := HC.out.2.2
            clear hV hO hR hF o c0
            go_region_held3 (fun w' => w'.cell? ⟨w.heap.size, 0, none⟩ = some (.int .i64 g) ∧ w'.cell? ⟨w.heap.size, 1, none⟩ = some (.int .i64 c) ∧ w'.cell? ⟨w.heap.size, 2, none⟩ = some (.slice (some ⟨b, off, none⟩) P.length c1))
              (first | assumption | (exact ⟨(hB8.cell (p := ⟨w.heap.size, 0, none⟩) (Nat.lt_succ_self _)).trans HC.out.1, (hB8.cell (p := ⟨w.heap.size, 1, none⟩) (Nat.lt_succ_self _)).trans HC.out.2.1, (hB8.cell (p := ⟨w.heap.size, 2, none⟩) (Nat.lt_succ_self _)).trans HC.out.2.2⟩) | (exact ⟨Fb.old (w := wb) (L := []) (by repeat (first | assumption | apply Fb.alloc_1 | apply Fb.alloc_2 | apply Fb.alloc_3 | apply Fb.alloc_4 | apply Fb.alloc_5 | apply Fb.alloc_8 | apply Fb.drew | apply Fb.drewN | apply Fb.other)) HC.out.1, Fb.old (w := wb) (L := []) (by repeat (first | assumption | apply Fb.alloc_1 | apply Fb.alloc_2 | apply Fb.alloc_3 | apply Fb.alloc_4 | apply Fb.alloc_5 | apply Fb.alloc_8 | apply Fb.drew | apply Fb.drewN | apply Fb.other)) HC.out.2.1, Fb.old (w := wb) (L := []) (by repeat (first | assumption | apply Fb.alloc_1 | apply Fb.alloc_2 | apply Fb.alloc_3 | apply Fb.alloc_4 | apply Fb.alloc_5 | apply Fb.alloc_8 | apply Fb.drew | apply Fb.drewN | apply Fb.other)) HC.out.2.2⟩))
              (first
                | (go_at_call 41; go_must (refine (CloneI_any b (off + k) (P.length - k) (c1 - k) (P.drop k) _ (ints_dropS (Rows.below HV.out (Fb.kp (W := wb) (L := []) (by repeat (first | assumption | apply Fb.alloc_1 | apply Fb.alloc_2 | apply Fb.alloc_3 | apply Fb.alloc_4 | apply Fb.alloc_5 | apply Fb.alloc_8 | apply Fb.drew | apply Fb.drewN | apply Fb.other)))) (by omega)) (by omega)).mono ?_); rintro e wx ⟨u, rfl, hU, hbx⟩; obtain ⟨ua, un, uc, rfl⟩ : ∃ a n c, u = Value.slice a n c := (by obtain ⟨a9, c9, e9⟩ := hU.sl; exact ⟨_, _, _, e9⟩); have hA : Apart (Value.slice ua un uc) _ := (apart_lt hlv (fun g9 h9 => Nat.le_trans (Below.size (Fb.kp (W := wb) (L := []) (by repeat (first | assumption | apply Fb.alloc_1 | apply Fb.alloc_2 | apply Fb.alloc_3 | apply Fb.alloc_4 | apply Fb.alloc_5 | apply Fb.alloc_8 | apply Fb.drew | apply Fb.drewN | apply Fb.other)))) (hU.ge g9 h9))).symm; have hUg : ∀ g9, (Value.slice ua un uc).ownBlock = some g9 → w.heap.size + 1 ≤ g9 := fun g9 h9 => Nat.le_trans (Nat.le_trans hsz (Below.size (Fb.kp (W := wb) (L := []) (by repeat (first | assumption | apply Fb.alloc_1 | apply Fb.alloc_2 | apply Fb.alloc_3 | apply Fb.alloc_4 | apply Fb.alloc_5 | apply Fb.alloc_8 | apply Fb.drew | apply Fb.drewN | apply Fb.other))))) (hU.ge g9 h9); replace hQ := Fb.below (W := wb) (L := []) (by repeat (first | assumption | apply Fb.alloc_1 | apply Fb.alloc_2 | apply Fb.alloc_3 | apply Fb.alloc_4 | apply Fb.alloc_5 | apply Fb.alloc_8 | apply Fb.drew | apply Fb.drewN | apply Fb.other)) hbx; have hUl := hU.lt; have hU1 := own_one hU; have hUi := Own.rows hU (fun _ => rfl); clear hbx hU)
                | (clear tok1; refine step_app1 (by rfl) _ _ 23 (by rfl) 28 (.agg #[.int .i64 0, .int .i64 0, .int .i64 0, .int .i64 0, .slice none 0 0]) 5 56 Tryd.underlying23 infoSl rfl (by decide) (by decide) (w.heap.size + 1) encS _ ds (by rfl) (HO.out.below (Fb.kp (W := wb) (L := []) (by repeat (first | assumption | apply Fb.alloc_1 | apply Fb.alloc_2 | apply Fb.alloc_3 | apply Fb.alloc_4 | apply Fb.alloc_5 | apply Fb.alloc_8 | apply Fb.drew | apply Fb.drewN | apply Fb.other)))) ((x, tv, g, c, Value.slice ua un uc) : SlV) ⟨_, 0, none⟩ 1 (by rfl) rfl (by first | exact cells_new _ _ _ | exact cells_newD _ _ _) (one_encS _ hU1) (by rw [HR.out.1, mkN_len]; omega) (Nat.le_trans hsz (Below.size (Fb.kp (W := wb) (L := []) (by repeat (first | assumption | apply Fb.alloc_1 | apply Fb.alloc_2 | apply Fb.alloc_3 | apply Fb.alloc_4 | apply Fb.alloc_5 | apply Fb.alloc_8 | apply Fb.drew | apply Fb.drewN | apply Fb.other))))) ?_; intro v8 w8 hO8 hg8 hb8 hf8; have hS8 : SOwn w8 (w.heap.size + 1) v8 (mkN ti g c P k ++ [(x, tv, g, c, P.drop k)]) := ⟨_, hO8, SRel.snoc HR.out (Nat.le_refl _) hg8 hf8 hb8.size (Fb.kp (W := wb) (L := []) (by repeat (first | assumption | apply Fb.alloc_1 | apply Fb.alloc_2 | apply Fb.alloc_3 | apply Fb.alloc_4 | apply Fb.alloc_5 | apply Fb.alloc_8 | apply Fb.drew | apply Fb.drewN | apply Fb.other))) (by repeat (first | exact hUi | apply Rows.alloc | apply Rows.drew)) hA (fun g9 h9 => ⟨hUg g9 h9, by have := hUl g9 h9; simp only [World.size_alloc, World.size_drew]; omega⟩)⟩; have hB8 : Below (w.heap.size + 1) wb w8 := Below.trans ((Fb.kp (W := wb) (L := []) (by repeat (first | assumption | apply Fb.alloc_1 | apply Fb.alloc_2 | apply Fb.alloc_3 | apply Fb.alloc_4 | apply Fb.alloc_5 | apply Fb.alloc_8 | apply Fb.drew | apply Fb.drewN | apply Fb.other))).mono hsz) hb8; clear hO8 hg8 hf8 hb8))
            all_goals
              rw [← sAt_eq HX.out htv.out, ← mkN_succ] at hS8
              have hF := HF.out.belowB hB8 (by omega) (by simp)
              have o := hF.own; simp only [World.size_alloc, World.size_drew, World.size_setCell, List.mem_cons, List.not_mem_nil, or_false, forall_eq_or_imp, forall_eq, At, and_true, Nat.zero_add, Nat.reduceAdd, List.set_cons_zero, List.set_cons_succ] at o
              go_wp2
              go_roundw
              case rel => exact ⟨k + 1, x, by omega, rfl, by go_num, tvAt_succ HX.out, by assumption, hF, by have := hB8.size; omega⟩
              case measure => simp [intOf]; omega
          · have hkn : k = P.length := by omega
            go_wp2
            go_ret
            exact ⟨_, rfl, by rw [hr.out, ← hkn]; exact hS.base (by omega), hF.kp⟩
    · have d2 : decide (Bts ti 1 5) = false := by simp [k2]
      have hr : Hid (sealsOf ti g c lk P M = []) := if_neg fun q => k2 q.2.1
      clear k1 k2
      go_wp2_with (first | (go_at_call 38; go_must (refine (iRouteOk_any g c lk _ _ P M a _ hp hm hE).mono ?_); rintro e wx ⟨rfl, hbx⟩; replace hF := hF.below hbx; replace hp := Rows.below hp hbx; replace hm := Rows.below hm hbx; replace hE := hE.below hbx; clear hbx o; have o := hF.own; simp only [World.size_alloc, World.size_drew, World.size_setCell, List.mem_cons, List.not_mem_nil, or_false, forall_eq_or_imp, forall_eq, At, and_true, Nat.zero_add, Nat.reduceAdd, List.set_cons_zero, List.set_cons_succ] at o) | (go_at_call 39; go_must (refine (isHouse_any ti _).mono ?_); rintro e wx ⟨rfl, hbx⟩; replace hF := hF.below hbx; replace hp := Rows.below hp hbx; replace hm := Rows.below hm hbx; replace hE := hE.below hbx; clear hbx o; have o := hF.own; simp only [World.size_alloc, World.size_drew, World.size_setCell, List.mem_cons, List.not_mem_nil, or_false, forall_eq_or_imp, forall_eq, At, and_true, Nat.zero_add, Nat.reduceAdd, List.set_cons_zero, List.set_cons_succ] at o))
      go_ret
      exact ⟨_, rfl, by rw [hr.out]; exact SOwn.nil _ _, hF.kp⟩
  · have d1 : decide (RtOk g c P lk M) = false := by simp [k1]
    have hr : Hid (sealsOf ti g c lk P M = []) := if_neg fun q => k1 q.1
    clear k1
    go_wp2_with ((go_at_call 38; go_must (refine (iRouteOk_any g c lk _ _ P M a _ hp hm hE).mono ?_); rintro e wx ⟨rfl, hbx⟩; replace hF := hF.below hbx; replace hp := Rows.below hp hbx; replace hm := Rows.below hm hbx; replace hE := hE.below hbx; clear hbx o; have o := hF.own; simp only [World.size_alloc, World.size_drew, World.size_setCell, List.mem_cons, List.not_mem_nil, or_false, forall_eq_or_imp, forall_eq, At, and_true, Nat.zero_add, Nat.reduceAdd, List.set_cons_zero, List.set_cons_succ] at o))
    go_ret
    exact ⟨_, rfl, by rw [hr.out]; exact SOwn.nil _ _, hF.kp⟩
end Go.Proofs.YtiocomefkckbfaaDoor
set_option linter.unusedSimpArgs false
set_option linter.unusedVariables false
namespace Go.Proofs.YtiocomefkckbfaaDoor
open Go.RowKit

theorem Fb.grown {W w w' : World} {L : List (Nat × List Value)} {gi : Nat} (h : Fb W w L) (hg : w.grownBy w' (some gi)) (hW : W.heap.size ≤ gi) (hL : ∀ p ∈ L, p.1 ≠ gi) : Fb W w' L :=
  ⟨⟨hg.os.trans h.kp.os, hg.tape.trans h.kp.tape, hg.output.trans h.kp.output, Nat.le_trans h.kp.size hg.size, fun i hi => (hg.block i (Nat.lt_of_lt_of_le hi h.kp.size) (fun e => by injection e with e; omega)).trans (h.kp.block i hi)⟩, fun p hp => by
    obtain ⟨h1, h2, h3⟩ := h.own p hp
    have hne : some p.1 ≠ some gi := fun e => by injection e with e; exact hL p hp e
    exact ⟨At.move (fun o v hv => hg.cell hv hne) (fun o v _ => hg.frozen_far ⟨p.1, o, none⟩ h3 hne) _ _ h1, h2, Nat.lt_of_lt_of_le h3 hg.size⟩⟩
theorem frsh_at {w w' : World} {gi n c : Nat} {v : Value} {E : TypeId} {B : Nat} {L : List Int} (hf : Frsh w (.slice (some ⟨gi, 0, none⟩) n c) v) (hO : Own E w' B v 1 encI L) : ∀ g, v.ownBlock = some g → (g = gi ∨ w.heap.size ≤ g) ∧ g < w'.heap.size := fun g hg => by
  refine ⟨?_, hO.lt g hg⟩
  rcases hf with e | ⟨g', e, h'⟩
  · rw [hg] at e; exact Or.inl (Option.some.inj e)
  · rw [hg] at e; injection e with e; exact Or.inr (by omega)
theorem Own.madeS {α : Type} (E : TypeId) (w : World) (B sz g : Nat) (enc : α → List Value) (hg : g = w.heap.size) (hB : B ≤ w.heap.size) : Own E (w.alloc (.cells #[] E)) B (.slice (some ⟨g, 0, none⟩) 0 0) sz enc [] := by
  subst hg; exact Own.made E w B sz enc hB
theorem kept5e {w : World} {r : Nat} {p : Addr} {u0 u1 u2 u3 u4 : Value} (hp : p.block ≠ r) : (((((w.setCell ⟨r, 0, none⟩ u0).setCell ⟨r, 1, none⟩ u1).setCell ⟨r, 2, none⟩ u2).setCell ⟨r, 3, none⟩ u3).setCell ⟨r, 4, none⟩ u4).cell? p = w.cell? p := by
  have hn : ∀ j : Nat, (⟨r, j, none⟩ : Addr) ≠ p := fun j e => hp (by rw [← e])
  rw [World.cell?_setCell_other _ _ _ _ (hn 4), World.cell?_setCell_other _ _ _ _ (hn 3), World.cell?_setCell_other _ _ _ _ (hn 2), World.cell?_setCell_other _ _ _ _ (hn 1), World.cell?_setCell_other _ _ _ _ (hn 0)]
theorem putF5 {n : Nat} {W w : World} {z0 z1 z2 z3 z4 : Value} {L : List (Nat × List Value)} (hF : Fb W w ((n, [z0, z1, z2, z3, z4]) :: L)) (hL : ∀ q ∈ L, q.1 ≠ n) (u0 u1 u2 u3 u4 : Value) :
    ∃ w', w' = ((((w.setCell ⟨n, 0, none⟩ u0).setCell ⟨n, 1, none⟩ u1).setCell ⟨n, 2, none⟩ u2).setCell ⟨n, 3, none⟩ u3).setCell ⟨n, 4, none⟩ u4 ∧ Fb W w' ((n, [u0, u1, u2, u3, u4]) :: L) ∧ w'.heap.size = w.heap.size ∧ ∀ (v : Value) (K : List Int), v.ownBlock ≠ some n → Rows w v 1 encI K → Rows w' v 1 encI K :=
  ⟨_, rfl, ((((hF.set 0 u0 (by simp) hL).set 1 u1 (by simp) hL).set 2 u2 (by simp) hL).set 3 u3 (by simp) hL).set 4 u4 (by simp) hL, by simp,
   fun v K hv hR => ((((hR.setO (p := ⟨n, 0, none⟩) hv u0).setO (p := ⟨n, 1, none⟩) hv u1).setO (p := ⟨n, 2, none⟩) hv u2).setO (p := ⟨n, 3, none⟩) hv u3).setO (p := ⟨n, 4, none⟩) hv u4⟩
theorem newF5 {W w : World} {L : List (Nat × List Value)} (hF : Fb W w L) (T : TypeId) (u0 u1 u2 u3 u4 : Value) :
    ∃ w', w' = w.alloc (.cells #[u0, u1, u2, u3, u4] T) ∧ Fb W w' ((w.heap.size, [u0, u1, u2, u3, u4]) :: L) ∧ w'.heap.size = w.heap.size + 1 ∧ ∀ (v : Value) (K : List Int), Rows w v 1 encI K → Rows w' v 1 encI K :=
  ⟨_, rfl, hF.alloc_5, by simp, fun v K h => Rows.alloc h _⟩
set_option maxRecDepth 100000 in
set_option maxHeartbeats 8000000 in
theorem l13Of_any (g c lk : Int) (P : List Int) (b off c1 : Nat) (o2 : Option Addr) (m2 c2 : Nat) (ti : Int) (k : Nat) (w : World) (hp : Ints w (.slice (some ⟨b, off, none⟩) P.length c1) P) (hk : k < P.length) (hP : P.length ≤ 1000) :
    Calls Tryd.prog 44 #[.agg #[.int .i64 g, .int .i64 c, .slice (some ⟨b, off, none⟩) P.length c1, .int .i64 lk, .slice o2 m2 c2], .int .i64 ti, .int .i64 k] w fun e w' => ∃ u, e = .returned (.agg #[.int .i64 (P.getD k 0), .int .i64 (tvAt ti P k), .int .i64 g, .int .i64 c, u]) ∧ Ints w' u (P.drop k) ∧ (∀ g, u.ownBlock = some g → w.heap.size ≤ g ∧ g < w'.heap.size) ∧ Below w.heap.size w w' := by
  obtain ⟨x, hx⟩ := get_lt hk
  have hxd := getD_of hx
  rw [hxd]
  obtain ⟨hnc, hcc, -⟩ := ints_capS hp
  have hF := ((Fb.start w).alloc [.int .i64 g, .int .i64 c, .slice (some ⟨b, off, none⟩) P.length c1, .int .i64 lk, .slice o2 m2 c2] 35).alloc [.int .i64 0, .int .i64 0, .int .i64 0, .int .i64 0, .slice none 0 0] 28
  simp only [World.size_alloc] at hF
  have hV := Rows.below hp hF.kp
  have c0 := Ints.get hV hx
  have HX := Lib.hid hx
  have HP := Lib.hid hp
  clear hx hxd hp
  have o := hF.own; simp only [World.size_alloc, World.size_drew, World.size_setCell, List.mem_cons, List.not_mem_nil, or_false, forall_eq_or_imp, forall_eq, At, and_true, Nat.zero_add, Nat.reduceAdd, List.set_cons_zero, List.set_cons_succ] at o
  go_enter Tryd.func44, Tryd.ntmps44
  go_upto_region 1 with (fail)
  obtain ⟨wb, hwb⟩ : ∃ wb : World, wb = (w.alloc (.cells #[.int .i64 g, .int .i64 c, .slice (some ⟨b, off, none⟩) P.length c1, .int .i64 lk, .slice o2 m2 c2] 35)).alloc (.cells #[.int .i64 0, .int .i64 0, .int .i64 0, .int .i64 0, .slice none 0 0] 28) := ⟨_, rfl⟩
  have hsb : wb.heap.size = w.heap.size + 2 := by rw [hwb]; simp
  rw [← hwb] at hF hV c0 o ⊢
  clear hwb
  have hQ := Fb.start wb
  have HV := Lib.hid hV
  have HF := Lib.hid hF
  have HC := Lib.hid (show wb.cell? ⟨w.heap.size, 0, none⟩ = some (.int .i64 g) ∧ wb.cell? ⟨w.heap.size, 1, none⟩ = some (.int .i64 c) ∧ wb.cell? ⟨w.heap.size, 2, none⟩ = some (.slice (some ⟨b, off, none⟩) P.length c1) ∧ wb.cell? ⟨b, off + k, none⟩ = some (.int .i64 x) by simp [o, c0])
  have g0 : (0 : Int) ≤ (k : Int) := by omega
  have g1 : (k : Int) ≤ (P.length : Int) := by omega
  have g2 : (k : Int) ≤ (c1 : Int) := by omega
  have g3 : ¬ c1 = k := by omega
  have g4 : IntKind.i64.wrap (k : Int) = (k : Int) := IntWalk.i64_in _ (by omega)
  have g5 : (k : Int) < (P.length : Int) := by omega
  have tok1 : True := trivial
  have q0 := HC.out.1
  have q1 := HC.out.2.1
  have q2 := HC.out.2.2.1
  have q3 := HC.out.2.2.2
  have HSB := Lib.hid hsb
  have HBB := Lib.hid (World.block_lt_of_cell? _ _ HC.out.2.2.2)
  clear hV hF o c0 hsb
  go_region_held3 (fun w' => w'.cell? ⟨w.heap.size, 0, none⟩ = some (.int .i64 g) ∧ w'.cell? ⟨w.heap.size, 1, none⟩ = some (.int .i64 c) ∧ w'.cell? ⟨w.heap.size, 2, none⟩ = some (.slice (some ⟨b, off, none⟩) P.length c1) ∧ w'.cell? ⟨b, off + k, none⟩ = some (.int .i64 x))
    (first | (with_reducible assumption) | (refine ⟨?_, ?_, ?_, ?_⟩; exact Fb.old (w := wb) (L := []) (by repeat (first | (with_reducible assumption) | (with_reducible apply Fb.setAway) | (with_reducible apply Fb.drew) | (with_reducible apply Fb.other) | (intro q hq; cases hq) | (have := hQ.kp.size; (try simp only [World.size_alloc, World.size_drew, World.size_setCell]); (try dsimp only); omega))) HC.out.1; exact Fb.old (w := wb) (L := []) (by repeat (first | (with_reducible assumption) | (with_reducible apply Fb.setAway) | (with_reducible apply Fb.drew) | (with_reducible apply Fb.other) | (intro q hq; cases hq) | (have := hQ.kp.size; (try simp only [World.size_alloc, World.size_drew, World.size_setCell]); (try dsimp only); omega))) HC.out.2.1; exact Fb.old (w := wb) (L := []) (by repeat (first | (with_reducible assumption) | (with_reducible apply Fb.setAway) | (with_reducible apply Fb.drew) | (with_reducible apply Fb.other) | (intro q hq; cases hq) | (have := hQ.kp.size; (try simp only [World.size_alloc, World.size_drew, World.size_setCell]); (try dsimp only); omega))) HC.out.2.2.1; exact Fb.old (w := wb) (L := []) (by repeat (first | (with_reducible assumption) | (with_reducible apply Fb.setAway) | (with_reducible apply Fb.drew) | (with_reducible apply Fb.other) | (intro q hq; cases hq) | (have := hQ.kp.size; (try simp only [World.size_alloc, World.size_drew, World.size_setCell]); (try dsimp only); omega))) HC.out.2.2.2))
    ((clear tok1; refine step_apps (by rfl) _ _ 26 (by rfl) 3 (.int .i64 0) 1 8 Tryd.underlying26 infoInt rfl (by decide) (by decide) wb.heap.size encI (fun _ => rfl) (fun _ u hu => by simp [encI] at hu; subst hu; rfl) (.slice (some ⟨_, 0, none⟩) 0 0) [] (by rfl) (by repeat (first | assumption | exact Own.madeS _ _ _ _ _ _ (by simp) (Below.size (Fb.kp (W := wb) (L := []) (by repeat (first | assumption | apply Fb.alloc_1 | apply Fb.alloc_2 | apply Fb.alloc_3 | apply Fb.alloc_4 | apply Fb.alloc_5 | apply Fb.alloc_8 | apply Fb.drew | apply Fb.drewN | apply Fb.other)))) | apply Own.alloc | apply Own.drew)) b (off + k) (P.length - k) (c1 - k) (P.drop k) (by rfl) (ints_dropS (Rows.below HV.out (Fb.kp (W := wb) (L := []) (by repeat (first | assumption | apply Fb.alloc_1 | apply Fb.alloc_2 | apply Fb.alloc_3 | apply Fb.alloc_4 | apply Fb.alloc_5 | apply Fb.alloc_8 | apply Fb.drew | apply Fb.drewN | apply Fb.other)))) (by omega)) (by simp; omega) (Below.size (Fb.kp (W := wb) (L := []) (by repeat (first | assumption | apply Fb.alloc_1 | apply Fb.alloc_2 | apply Fb.alloc_3 | apply Fb.alloc_4 | apply Fb.alloc_5 | apply Fb.alloc_8 | apply Fb.drew | apply Fb.drewN | apply Fb.other)))) ?_; intro v9 w9 hO9 hg9 hb9 hf9; rw [List.nil_append] at hO9; obtain ⟨ua, un, uc, rfl⟩ : ∃ a n c, v9 = Value.slice a n c := (by obtain ⟨a9, c9, e9⟩ := hO9.sl; exact ⟨_, _, _, e9⟩); replace hQ := Fb.belowB (W := wb) (L := []) (by repeat (first | assumption | apply Fb.alloc_1 | apply Fb.alloc_2 | apply Fb.alloc_3 | apply Fb.alloc_4 | apply Fb.alloc_5 | apply Fb.alloc_8 | apply Fb.drew | apply Fb.drewN | apply Fb.other)) hb9 (Nat.le_refl _) (by simp); have hF9 := Fb.grown (W := w) (by repeat (first | exact HF.out | apply Fb.alloc_5 | apply Fb.drew | apply Fb.other)) hg9 (by have := HSB.out; simp only [World.size_alloc, World.size_drew]; omega) (by have := HSB.out; simp only [World.size_alloc, World.size_drew, List.mem_cons, List.not_mem_nil, or_false, forall_eq_or_imp, forall_eq]; omega); have hfx := frsh_at hf9 hO9; have hUi := Own.rows hO9 (fun _ => rfl); clear hg9 hb9 hf9 hO9; have o9 := (hF9.own _ (List.mem_cons_self ..)).1; simp only [At, and_true, Nat.zero_add, Nat.reduceAdd, World.size_alloc, World.size_drew] at o9; have HF9 := Lib.hid hF9; have HFX := Lib.hid hfx; clear hF9 hfx))
  · obtain ⟨wz, hwz, hFz, hsz, hrz⟩ := newF5 HF9.out 28 (.int .i64 x) (.int .i64 ti) (.int .i64 g) (.int .i64 c) (.slice ua un uc)
    rw [← hwz]
    replace hrz := hrz _ _ hUi
    have hfx := HFX.out
    simp only [World.size_alloc, World.size_drew] at hfx
    have hgt : w.heap.size + 1 < w9.heap.size := by have := hQ.kp.size; have := HSB.out; omega
    clear hwz HF9 HFX hUi o9 hQ
    have HR := Lib.hid hrz
    have hfz : Hid (∀ g, (Value.slice ua un uc).ownBlock = some g → w.heap.size ≤ g ∧ g < wz.heap.size ∧ g ≠ w.heap.size + 1 ∧ g ≠ w9.heap.size) := fun g9 h9 => by have := hfx g9 h9; have := HSB.out; omega
    rename_i hHd; clear hHd
    clear hfx hrz q0 q1 q2 q3
    clear hsz HF HV HC
    have hF := hFz
    clear hFz
    have o := hF.own; simp only [World.size_alloc, World.size_drew, World.size_setCell, List.mem_cons, List.not_mem_nil, or_false, forall_eq_or_imp, forall_eq, At, and_true, Nat.zero_add, Nat.reduceAdd, List.set_cons_zero, List.set_cons_succ] at o
    by_cases hk0 : k = 0
    · have hg0 : decide (0 < k) = false := by simp [hk0]
      have htv : Hid (tvAt ti P k = ti) := by show _ = _; simp [tvAt, hk0]
      clear hk0
      go_wp2
      have hF2 := hF
      clear hF
      obtain ⟨wy, hwy, hFy, hsy, hry⟩ := putF5 (L := [(w9.heap.size, [.int .i64 x, .int .i64 ti, .int .i64 g, .int .i64 c, .slice ua un uc]), (w.heap.size, [.int .i64 g, .int .i64 c, .slice (some ⟨b, off, none⟩) P.length c1, .int .i64 lk, .slice o2 m2 c2])]) (n := w.heap.size + 1) (z0 := .int .i64 0) (z1 := .int .i64 0) (z2 := .int .i64 0) (z3 := .int .i64 0) (z4 := .slice none 0 0) (hF2.sub (by simp)) (by simp; omega) (.int .i64 x) (.int .i64 ti) (.int .i64 g) (.int .i64 c) (.slice ua un uc)
      rw [← hwy]
      clear hwy o
      replace hry := Lib.hid (hry _ _ (fun e => (hfz.out _ e).2.2.1 rfl) HR.out)
      have hF := hFy
      have o := hF.own; simp only [World.size_alloc, World.size_drew, World.size_setCell, List.mem_cons, List.not_mem_nil, or_false, forall_eq_or_imp, forall_eq, At, and_true, Nat.zero_add, Nat.reduceAdd, List.set_cons_zero, List.set_cons_succ] at o
      refine bodyPost_ret (v := .agg #[.int .i64 x, .int .i64 ti, .int .i64 g, .int .i64 c, .slice ua un uc]) (by simp [results, Tryd.results44, go_sem, o]) rfl ⟨_, by rw [htv.out], hry.out, fun g9 h9 => ⟨(hfz.out g9 h9).1, ?_⟩, hFy.kp⟩
      have := (hfz.out g9 h9).2.1
      (try simp only [World.size_setCell] at hsy)
      omega
    · have hg0 : decide (0 < k) = true := by simp; omega
      obtain ⟨y, hy⟩ := get_lt (show k - 1 < P.length by omega)
      have htv : Hid (tvAt ti P k = y) := by show _ = _; simp [tvAt, hk0, List.getD, hy]
      have cy := Ints.get (Rows.below HP.out hF.kp) hy
      have hy1 : 1 ≤ (k : Int) := by omega
      have hy2 : ((k : Int) - 1).toNat = k - 1 := by omega
      clear hy hk0
      go_wp2
      have hF2 := (hF.set 1 (.int .i64 y) (by simp) (by simp; omega))
      clear hF
      obtain ⟨wy, hwy, hFy, hsy, hry⟩ := putF5 (L := [(w9.heap.size, [.int .i64 x, .int .i64 y, .int .i64 g, .int .i64 c, .slice ua un uc]), (w.heap.size, [.int .i64 g, .int .i64 c, .slice (some ⟨b, off, none⟩) P.length c1, .int .i64 lk, .slice o2 m2 c2])]) (n := w.heap.size + 1) (z0 := .int .i64 0) (z1 := .int .i64 0) (z2 := .int .i64 0) (z3 := .int .i64 0) (z4 := .slice none 0 0) (hF2.sub (by simp)) (by simp; omega) (.int .i64 x) (.int .i64 y) (.int .i64 g) (.int .i64 c) (.slice ua un uc)
      rw [← hwy]
      clear hwy o
      replace hry := Lib.hid (hry _ _ (fun e => (hfz.out _ e).2.2.1 rfl) (Rows.setO (p := ⟨w9.heap.size, 1, none⟩) HR.out (fun e => (hfz.out _ e).2.2.2 rfl) (.int .i64 y)))
      have hF := hFy
      have o := hF.own; simp only [World.size_alloc, World.size_drew, World.size_setCell, List.mem_cons, List.not_mem_nil, or_false, forall_eq_or_imp, forall_eq, At, and_true, Nat.zero_add, Nat.reduceAdd, List.set_cons_zero, List.set_cons_succ] at o
      refine bodyPost_ret (v := .agg #[.int .i64 x, .int .i64 y, .int .i64 g, .int .i64 c, .slice ua un uc]) (by simp [results, Tryd.results44, go_sem, o]) rfl ⟨_, by rw [htv.out], hry.out, fun g9 h9 => ⟨(hfz.out g9 h9).1, ?_⟩, hFy.kp⟩
      have := (hfz.out g9 h9).2.1
      (try simp only [World.size_setCell] at hsy)
      omega
  · (try simp only [World.size_alloc, World.size_drew] at HF9)
    obtain ⟨wz, hwz, hFz, hsz, hrz⟩ := putF5 HF9.out (by simp; have := HSB.out; omega) (.int .i64 x) (.int .i64 ti) (.int .i64 g) (.int .i64 c) (.slice ua un uc)
    rw [← hwz]
    have hfx := HFX.out
    simp only [World.size_alloc, World.size_drew] at hfx
    replace hrz := hrz _ _ (fun e => by have := hfx _ e; omega) hUi
    have hgt : w.heap.size + 1 < wb.heap.size + 1 := by have := HSB.out; omega
    clear hwz HF9 HFX hUi o9 hQ
    have HR := Lib.hid hrz
    have hfz : Hid (∀ g, (Value.slice ua un uc).ownBlock = some g → w.heap.size ≤ g ∧ g < wz.heap.size ∧ g ≠ w.heap.size + 1 ∧ g ≠ (wb.heap.size + 1)) := fun g9 h9 => by have := hfx g9 h9; have := HSB.out; omega
    rename_i hHd; clear hHd
    clear hfx hrz q0 q1 q2 q3
    clear hsz HF HV HC
    have hF := hFz
    clear hFz
    have o := hF.own; simp only [World.size_alloc, World.size_drew, World.size_setCell, List.mem_cons, List.not_mem_nil, or_false, forall_eq_or_imp, forall_eq, At, and_true, Nat.zero_add, Nat.reduceAdd, List.set_cons_zero, List.set_cons_succ] at o
    by_cases hk0 : k = 0
    · have hg0 : decide (0 < k) = false := by simp [hk0]
      have htv : Hid (tvAt ti P k = ti) := by show _ = _; simp [tvAt, hk0]
      clear hk0
      go_wp2
      have hF2 := hF
      clear hF
      obtain ⟨wy, hwy, hFy, hsy, hry⟩ := putF5 (L := [((wb.heap.size + 1), [.int .i64 x, .int .i64 ti, .int .i64 g, .int .i64 c, .slice ua un uc]), (w.heap.size, [.int .i64 g, .int .i64 c, .slice (some ⟨b, off, none⟩) P.length c1, .int .i64 lk, .slice o2 m2 c2])]) (n := w.heap.size + 1) (z0 := .int .i64 0) (z1 := .int .i64 0) (z2 := .int .i64 0) (z3 := .int .i64 0) (z4 := .slice none 0 0) (hF2.sub (by simp)) (by simp; omega) (.int .i64 x) (.int .i64 ti) (.int .i64 g) (.int .i64 c) (.slice ua un uc)
      rw [← hwy]
      clear hwy o
      replace hry := Lib.hid (hry _ _ (fun e => (hfz.out _ e).2.2.1 rfl) HR.out)
      have hF := hFy
      have o := hF.own; simp only [World.size_alloc, World.size_drew, World.size_setCell, List.mem_cons, List.not_mem_nil, or_false, forall_eq_or_imp, forall_eq, At, and_true, Nat.zero_add, Nat.reduceAdd, List.set_cons_zero, List.set_cons_succ] at o
      refine bodyPost_ret (v := .agg #[.int .i64 x, .int .i64 ti, .int .i64 g, .int .i64 c, .slice ua un uc]) (by simp [results, Tryd.results44, go_sem, o]) rfl ⟨_, by rw [htv.out], hry.out, fun g9 h9 => ⟨(hfz.out g9 h9).1, ?_⟩, hFy.kp⟩
      have := (hfz.out g9 h9).2.1
      (try simp only [World.size_setCell] at hsy)
      omega
    · have hg0 : decide (0 < k) = true := by simp; omega
      obtain ⟨y, hy⟩ := get_lt (show k - 1 < P.length by omega)
      have htv : Hid (tvAt ti P k = y) := by show _ = _; simp [tvAt, hk0, List.getD, hy]
      have cy := Ints.get (Rows.below HP.out hF.kp) hy
      have hy1 : 1 ≤ (k : Int) := by omega
      have hy2 : ((k : Int) - 1).toNat = k - 1 := by omega
      clear hy hk0
      go_wp2
      have hF2 := (hF.set 1 (.int .i64 y) (by simp) (by simp; omega))
      clear hF
      obtain ⟨wy, hwy, hFy, hsy, hry⟩ := putF5 (L := [((wb.heap.size + 1), [.int .i64 x, .int .i64 y, .int .i64 g, .int .i64 c, .slice ua un uc]), (w.heap.size, [.int .i64 g, .int .i64 c, .slice (some ⟨b, off, none⟩) P.length c1, .int .i64 lk, .slice o2 m2 c2])]) (n := w.heap.size + 1) (z0 := .int .i64 0) (z1 := .int .i64 0) (z2 := .int .i64 0) (z3 := .int .i64 0) (z4 := .slice none 0 0) (hF2.sub (by simp)) (by simp; omega) (.int .i64 x) (.int .i64 y) (.int .i64 g) (.int .i64 c) (.slice ua un uc)
      rw [← hwy]
      clear hwy o
      replace hry := Lib.hid (hry _ _ (fun e => (hfz.out _ e).2.2.1 rfl) (Rows.setO (p := ⟨(wb.heap.size + 1), 1, none⟩) HR.out (fun e => (hfz.out _ e).2.2.2 rfl) (.int .i64 y)))
      have hF := hFy
      have o := hF.own; simp only [World.size_alloc, World.size_drew, World.size_setCell, List.mem_cons, List.not_mem_nil, or_false, forall_eq_or_imp, forall_eq, At, and_true, Nat.zero_add, Nat.reduceAdd, List.set_cons_zero, List.set_cons_succ] at o
      refine bodyPost_ret (v := .agg #[.int .i64 x, .int .i64 y, .int .i64 g, .int .i64 c, .slice ua un uc]) (by simp [results, Tryd.results44, go_sem, o]) rfl ⟨_, by rw [htv.out], hry.out, fun g9 h9 => ⟨(hfz.out g9 h9).1, ?_⟩, hFy.kp⟩
      have := (hfz.out g9 h9).2.1
      (try simp only [World.size_setCell] at hsy)
      omega
  · (try simp only [World.size_alloc, World.size_drew] at HF9)
    obtain ⟨wz, hwz, hFz, hsz, hrz⟩ := putF5 HF9.out (by simp; have := HSB.out; omega) (.int .i64 x) (.int .i64 ti) (.int .i64 g) (.int .i64 c) (.slice ua un uc)
    rw [← hwz]
    have hfx := HFX.out
    simp only [World.size_alloc, World.size_drew] at hfx
    replace hrz := hrz _ _ (fun e => by have := hfx _ e; omega) hUi
    have hgt : w.heap.size + 1 < wb.heap.size := by have := HSB.out; omega
    clear hwz HF9 HFX hUi o9 hQ
    have HR := Lib.hid hrz
    have hfz : Hid (∀ g, (Value.slice ua un uc).ownBlock = some g → w.heap.size ≤ g ∧ g < wz.heap.size ∧ g ≠ w.heap.size + 1 ∧ g ≠ wb.heap.size) := fun g9 h9 => by have := hfx g9 h9; have := HSB.out; omega
    rename_i hHd; clear hHd
    clear hfx hrz q0 q1 q2 q3
    clear hsz HF HV HC
    have hF := hFz
    clear hFz
    have o := hF.own; simp only [World.size_alloc, World.size_drew, World.size_setCell, List.mem_cons, List.not_mem_nil, or_false, forall_eq_or_imp, forall_eq, At, and_true, Nat.zero_add, Nat.reduceAdd, List.set_cons_zero, List.set_cons_succ] at o
    by_cases hk0 : k = 0
    · have hg0 : decide (0 < k) = false := by simp [hk0]
      have htv : Hid (tvAt ti P k = ti) := by show _ = _; simp [tvAt, hk0]
      clear hk0
      go_wp2
      have hF2 := hF
      clear hF
      obtain ⟨wy, hwy, hFy, hsy, hry⟩ := putF5 (L := [(wb.heap.size, [.int .i64 x, .int .i64 ti, .int .i64 g, .int .i64 c, .slice ua un uc]), (w.heap.size, [.int .i64 g, .int .i64 c, .slice (some ⟨b, off, none⟩) P.length c1, .int .i64 lk, .slice o2 m2 c2])]) (n := w.heap.size + 1) (z0 := .int .i64 0) (z1 := .int .i64 0) (z2 := .int .i64 0) (z3 := .int .i64 0) (z4 := .slice none 0 0) (hF2.sub (by simp)) (by simp; omega) (.int .i64 x) (.int .i64 ti) (.int .i64 g) (.int .i64 c) (.slice ua un uc)
      rw [← hwy]
      clear hwy o
      replace hry := Lib.hid (hry _ _ (fun e => (hfz.out _ e).2.2.1 rfl) HR.out)
      have hF := hFy
      have o := hF.own; simp only [World.size_alloc, World.size_drew, World.size_setCell, List.mem_cons, List.not_mem_nil, or_false, forall_eq_or_imp, forall_eq, At, and_true, Nat.zero_add, Nat.reduceAdd, List.set_cons_zero, List.set_cons_succ] at o
      refine bodyPost_ret (v := .agg #[.int .i64 x, .int .i64 ti, .int .i64 g, .int .i64 c, .slice ua un uc]) (by simp [results, Tryd.results44, go_sem, o]) rfl ⟨_, by rw [htv.out], hry.out, fun g9 h9 => ⟨(hfz.out g9 h9).1, ?_⟩, hFy.kp⟩
      have := (hfz.out g9 h9).2.1
      (try simp only [World.size_setCell] at hsy)
      omega
    · have hg0 : decide (0 < k) = true := by simp; omega
      obtain ⟨y, hy⟩ := get_lt (show k - 1 < P.length by omega)
      have htv : Hid (tvAt ti P k = y) := by show _ = _; simp [tvAt, hk0, List.getD, hy]
      have cy := Ints.get (Rows.below HP.out hF.kp) hy
      have hy1 : 1 ≤ (k : Int) := by omega
      have hy2 : ((k : Int) - 1).toNat = k - 1 := by omega
      clear hy hk0
      go_wp2
      have hF2 := (hF.set 1 (.int .i64 y) (by simp) (by simp; omega))
      clear hF
      obtain ⟨wy, hwy, hFy, hsy, hry⟩ := putF5 (L := [(wb.heap.size, [.int .i64 x, .int .i64 y, .int .i64 g, .int .i64 c, .slice ua un uc]), (w.heap.size, [.int .i64 g, .int .i64 c, .slice (some ⟨b, off, none⟩) P.length c1, .int .i64 lk, .slice o2 m2 c2])]) (n := w.heap.size + 1) (z0 := .int .i64 0) (z1 := .int .i64 0) (z2 := .int .i64 0) (z3 := .int .i64 0) (z4 := .slice none 0 0) (hF2.sub (by simp)) (by simp; omega) (.int .i64 x) (.int .i64 y) (.int .i64 g) (.int .i64 c) (.slice ua un uc)
      rw [← hwy]
      clear hwy o
      replace hry := Lib.hid (hry _ _ (fun e => (hfz.out _ e).2.2.1 rfl) (Rows.setO (p := ⟨wb.heap.size, 1, none⟩) HR.out (fun e => (hfz.out _ e).2.2.2 rfl) (.int .i64 y)))
      have hF := hFy
      have o := hF.own; simp only [World.size_alloc, World.size_drew, World.size_setCell, List.mem_cons, List.not_mem_nil, or_false, forall_eq_or_imp, forall_eq, At, and_true, Nat.zero_add, Nat.reduceAdd, List.set_cons_zero, List.set_cons_succ] at o
      refine bodyPost_ret (v := .agg #[.int .i64 x, .int .i64 y, .int .i64 g, .int .i64 c, .slice ua un uc]) (by simp [results, Tryd.results44, go_sem, o]) rfl ⟨_, by rw [htv.out], hry.out, fun g9 h9 => ⟨(hfz.out g9 h9).1, ?_⟩, hFy.kp⟩
      have := (hfz.out g9 h9).2.1
      (try simp only [World.size_setCell] at hsy)
      omega
end Go.Proofs.YtiocomefkckbfaaDoor
set_option linter.unusedSimpArgs false
set_option linter.unusedVariables false
namespace Go.Proofs.YtiocomefkckbfaaDoor
open Go.RowKit

theorem sAt_is (ti g c : Int) (P : List Int) (k : Nat) : sAt ti g c P k = (P.getD k 0, tvAt ti P k, g, c, P.drop k) := rfl
set_option maxHeartbeats 8000000 in
theorem sSealMake_any (g c lk : Int) (pv mv : Value) (P M : List Int) (ti : Int) (w : World) (hp : Ints w pv P) (hm : Ints w mv M) (hP : P.length ≤ 1000) :
    Calls Tryd.prog 18 #[.agg #[.int .i64 g, .int .i64 c, pv, .int .i64 lk, mv], .int .i64 ti] w fun e w' => ∃ u, e = .returned u ∧ SOwn w' w.heap.size u (sealsOf ti g c lk P M) ∧ (∃ g n c, u = .slice (some ⟨g, 0, none⟩) n c) ∧ Below w.heap.size w w' := by
  obtain ⟨o1, c1, rfl, hnc, hcc, -⟩ := hp.ex
  obtain ⟨o2, c2, rfl, -⟩ := hm.ex
  have HP0 := Lib.hid hp
  have hF := ((Fb.start w).alloc [.int .i64 g, .int .i64 c, .slice o1 P.length c1, .int .i64 lk, .slice o2 M.length c2] 35).other (.cells #[] 28)
  have hS0 := SOwn.made (w.alloc (.cells #[.int .i64 g, .int .i64 c, .slice o1 P.length c1, .int .i64 lk, .slice o2 M.length c2] 35)) (w.heap.size + 1) (by simp)
  replace hp := Rows.below hp hF.kp
  replace hm := Rows.below hm hF.kp
  simp only [World.size_alloc] at hS0
  have o := hF.own; simp only [World.size_alloc, World.size_drew, World.size_setCell, List.mem_cons, List.not_mem_nil, or_false, forall_eq_or_imp, forall_eq, At, and_true, Nat.zero_add, Nat.reduceAdd, List.set_cons_zero, List.set_cons_succ] at o
  go_enter Tryd.func18, Tryd.ntmps18
  by_cases k1 : RtOk g c P lk M
  · have d1 : decide (RtOk g c P lk M) = true := by simp [k1]
    by_cases k2 : Bts ti 1 5
    · have d2 : decide (Bts ti 1 5) = true := by simp [k2]
      by_cases k3 : ti ∈ P
      · have d3 : decide (ti ∈ P) = true := by simp [k3]
        have hr : Hid (sealsOf ti g c lk P M = []) := if_neg fun q => q.2.2 k3
        clear k1 k2 k3
        go_wp2_with (first | (go_at_call 28; go_must (refine (sRouteOk_any g c lk _ _ P M _ hp hm).mono ?_); rintro e wx ⟨rfl, hbx⟩; replace hF := hF.below hbx; replace hp := Rows.below hp hbx; replace hm := Rows.below hm hbx; replace hS0 := hS0.below hbx; clear hbx o; have o := hF.own; simp only [World.size_alloc, World.size_drew, World.size_setCell, List.mem_cons, List.not_mem_nil, or_false, forall_eq_or_imp, forall_eq, At, and_true, Nat.zero_add, Nat.reduceAdd, List.set_cons_zero, List.set_cons_succ] at o) | (go_at_call 42; go_must (refine (l3House_any ti _).mono ?_); rintro e wx ⟨rfl, hbx⟩; replace hF := hF.below hbx; replace hp := Rows.below hp hbx; replace hm := Rows.below hm hbx; replace hS0 := hS0.below hbx; clear hbx o; have o := hF.own; simp only [World.size_alloc, World.size_drew, World.size_setCell, List.mem_cons, List.not_mem_nil, or_false, forall_eq_or_imp, forall_eq, At, and_true, Nat.zero_add, Nat.reduceAdd, List.set_cons_zero, List.set_cons_succ] at o) | (go_at_call 43; go_must (refine (l3Has_any _ P ti _ hp).mono ?_); rintro e wx ⟨rfl, hbx⟩; replace hF := hF.below hbx; replace hp := Rows.below hp hbx; replace hm := Rows.below hm hbx; replace hS0 := hS0.below hbx; clear hbx o; have o := hF.own; simp only [World.size_alloc, World.size_drew, World.size_setCell, List.mem_cons, List.not_mem_nil, or_false, forall_eq_or_imp, forall_eq, At, and_true, Nat.zero_add, Nat.reduceAdd, List.set_cons_zero, List.set_cons_succ] at o))
        go_ret
        exact ⟨_, rfl, by rw [hr.out]; exact hS0.base (by omega), ⟨_, _, _, rfl⟩, hF.kp⟩
      · have d3 : decide (ti ∈ P) = false := by simp [k3]
        have hr : Hid (sealsOf ti g c lk P M = mkN ti g c P P.length) := if_pos ⟨k1, k2, k3⟩
        obtain ⟨b, off, rfl⟩ := Ints.some hp k1.2.1
        clear k1 k2 k3
        go_wp2_with (first | (go_at_call 28; go_must (refine (sRouteOk_any g c lk _ _ P M _ hp hm).mono ?_); rintro e wx ⟨rfl, hbx⟩; replace hF := hF.below hbx; replace hp := Rows.below hp hbx; replace hm := Rows.below hm hbx; replace hS0 := hS0.below hbx; clear hbx o; have o := hF.own; simp only [World.size_alloc, World.size_drew, World.size_setCell, List.mem_cons, List.not_mem_nil, or_false, forall_eq_or_imp, forall_eq, At, and_true, Nat.zero_add, Nat.reduceAdd, List.set_cons_zero, List.set_cons_succ] at o) | (go_at_call 42; go_must (refine (l3House_any ti _).mono ?_); rintro e wx ⟨rfl, hbx⟩; replace hF := hF.below hbx; replace hp := Rows.below hp hbx; replace hm := Rows.below hm hbx; replace hS0 := hS0.below hbx; clear hbx o; have o := hF.own; simp only [World.size_alloc, World.size_drew, World.size_setCell, List.mem_cons, List.not_mem_nil, or_false, forall_eq_or_imp, forall_eq, At, and_true, Nat.zero_add, Nat.reduceAdd, List.set_cons_zero, List.set_cons_succ] at o) | (go_at_call 43; go_must (refine (l3Has_any _ P ti _ hp).mono ?_); rintro e wx ⟨rfl, hbx⟩; replace hF := hF.below hbx; replace hp := Rows.below hp hbx; replace hm := Rows.below hm hbx; replace hS0 := hS0.below hbx; clear hbx o; have o := hF.own; simp only [World.size_alloc, World.size_drew, World.size_setCell, List.mem_cons, List.not_mem_nil, or_false, forall_eq_or_imp, forall_eq, At, and_true, Nat.zero_add, Nat.reduceAdd, List.set_cons_zero, List.set_cons_succ] at o))
        go_loopw [5, 6] (fun o i wr => ∃ (k : Nat), k ≤ P.length ∧ i = .int .i64 k ∧ SOwn wr (w.heap.size + 1) o (mkN ti g c P k) ∧ (∃ g n c, o = .slice (some ⟨g, 0, none⟩) n c) ∧ Fb w wr [(w.heap.size, [.int .i64 g, .int .i64 c, .slice (some ⟨b, off, none⟩) P.length c1, .int .i64 lk, .slice o2 M.length c2])]) (fun _ i _ => P.length - (intOf i).toNat)
        case atStart => exact ⟨0, Nat.zero_le _, rfl, hS0, ⟨_, _, _, rfl⟩, hF⟩
        case round =>
          clear hF hp hm o hS0
          obtain ⟨k, hk, rfl, hS, hnn, hF⟩ := hrel
          replace hnn := Lib.hid hnn
          by_cases hlt : k < P.length
          · obtain ⟨ds, hO, hR⟩ := hS
            have o := hF.own; simp only [World.size_alloc, World.size_drew, World.size_setCell, List.mem_cons, List.not_mem_nil, or_false, forall_eq_or_imp, forall_eq, At, and_true, Nat.zero_add, Nat.reduceAdd, List.set_cons_zero, List.set_cons_succ] at o
            go_wp2_with fail
            refine (l13Of_any g c lk P b off c1 o2 M.length c2 ti k _ (Rows.below HP0.out hF.kp) hlt hP).mono ?_; rintro e wx ⟨u, rfl, hu, hul, hbx⟩
            obtain ⟨au, nu, cu, rfl, -⟩ := Ints.sl hu
            have hlv := hO.lt
            have hge := hF.own _ (List.mem_cons_self ..)
            have hA : Apart (.slice au nu cu) u5 := (apart_lt hlv (fun g9 h9 => (hul g9 h9).1)).symm
            replace hO := hO.below hbx
            replace hR := hR.below hbx
            replace hF := hF.below hbx
            have hbs := hbx.size
            have hsg := sAt_is ti g c P k
            obtain ⟨px, hpx⟩ : ∃ z, P.getD k 0 = z := ⟨_, rfl⟩
            obtain ⟨pt, hpt⟩ : ∃ z, tvAt ti P k = z := ⟨_, rfl⟩
            rw [hpx, hpt] at hsg
            rw [hpx, hpt]
            have HSG := Lib.hid hsg
            have HU := Lib.hid hu
            have HL := Lib.hid hul
            have hge2 : w.heap.size < wr.heap.size := hge.2.2
            clear hpx hpt hsg hu hul hbx o hge
            have o := hF.own; simp only [World.size_alloc, World.size_drew, World.size_setCell, List.mem_cons, List.not_mem_nil, or_false, forall_eq_or_imp, forall_eq, At, and_true, Nat.zero_add, Nat.reduceAdd, List.set_cons_zero, List.set_cons_succ] at o
            go_wp2_with (at_builtin; refine wpList_app rfl _ _ 23 rfl 28 (.agg #[.int .i64 0, .int .i64 0, .int .i64 0, .int .i64 0, .slice none 0 0]) 5 56 Tryd.underlying23 infoSl rfl (by decide) (by decide) (w.heap.size + 1) encS _ ds rfl (hO.alloc _) ((px, pt, g, c, .slice au nu cu) : SlV) ⟨_, 0, none⟩ 1 rfl rfl (cells_new _ _ _) (one_encS _ rfl) (by rw [hR.1, mkN_len]; omega) (by simp only [World.size_alloc]; omega) ?_; intro v' wy hO1 hg1 hb1 hf1; have hS1 : SOwn wy (w.heap.size + 1) v' (mkN ti g c P k ++ [(px, pt, g, c, P.drop k)]) := ⟨_, hO1, SRel.snoc hR hbs hg1 hf1 hb1.size ((Below.refl _ _).alloc (Nat.le_refl _) _) (Rows.alloc HU.out _) hA (fun g9 h9 => by have := HL.out g9 h9; simp only [World.size_alloc]; omega)⟩; replace hF := (hF.other _).belowB hb1 (by omega) (by simp); have hN1 : Hid (∃ g n c, v' = Value.slice (some ⟨g, 0, none⟩) n c) := (by obtain ⟨g9, c9, e9, -⟩ := own_some5 hO1 (by simp); exact ⟨g9, _, c9, e9⟩); clear hO1 hg1 hb1 hf1 o)
            rw [← HSG.out, ← mkN_succ] at hS1
            go_roundw
            case rel => exact ⟨k + 1, by omega, by go_num, hS1, hN1.out, hF⟩
            case measure => simp [intOf]; omega
          · have hkn : k = P.length := by omega
            have o := hF.own; simp only [World.size_alloc, World.size_drew, World.size_setCell, List.mem_cons, List.not_mem_nil, or_false, forall_eq_or_imp, forall_eq, At, and_true, Nat.zero_add, Nat.reduceAdd, List.set_cons_zero, List.set_cons_succ] at o
            go_wp2
            go_ret
            exact ⟨_, rfl, by rw [hr.out, ← hkn]; exact hS.base (by omega), hnn.out, hF.kp⟩
    · have d2 : decide (Bts ti 1 5) = false := by simp [k2]
      have hr : Hid (sealsOf ti g c lk P M = []) := if_neg fun q => k2 q.2.1
      clear k1 k2
      go_wp2_with (first | (go_at_call 28; go_must (refine (sRouteOk_any g c lk _ _ P M _ hp hm).mono ?_); rintro e wx ⟨rfl, hbx⟩; replace hF := hF.below hbx; replace hp := Rows.below hp hbx; replace hm := Rows.below hm hbx; replace hS0 := hS0.below hbx; clear hbx o; have o := hF.own; simp only [World.size_alloc, World.size_drew, World.size_setCell, List.mem_cons, List.not_mem_nil, or_false, forall_eq_or_imp, forall_eq, At, and_true, Nat.zero_add, Nat.reduceAdd, List.set_cons_zero, List.set_cons_succ] at o) | (go_at_call 42; go_must (refine (l3House_any ti _).mono ?_); rintro e wx ⟨rfl, hbx⟩; replace hF := hF.below hbx; replace hp := Rows.below hp hbx; replace hm := Rows.below hm hbx; replace hS0 := hS0.below hbx; clear hbx o; have o := hF.own; simp only [World.size_alloc, World.size_drew, World.size_setCell, List.mem_cons, List.not_mem_nil, or_false, forall_eq_or_imp, forall_eq, At, and_true, Nat.zero_add, Nat.reduceAdd, List.set_cons_zero, List.set_cons_succ] at o))
      go_ret
      exact ⟨_, rfl, by rw [hr.out]; exact hS0.base (by omega), ⟨_, _, _, rfl⟩, hF.kp⟩
  · have d1 : decide (RtOk g c P lk M) = false := by simp [k1]
    have hr : Hid (sealsOf ti g c lk P M = []) := if_neg fun q => k1 q.1
    clear k1
    go_wp2_with ((go_at_call 28; go_must (refine (sRouteOk_any g c lk _ _ P M _ hp hm).mono ?_); rintro e wx ⟨rfl, hbx⟩; replace hF := hF.below hbx; replace hp := Rows.below hp hbx; replace hm := Rows.below hm hbx; replace hS0 := hS0.below hbx; clear hbx o; have o := hF.own; simp only [World.size_alloc, World.size_drew, World.size_setCell, List.mem_cons, List.not_mem_nil, or_false, forall_eq_or_imp, forall_eq, At, and_true, Nat.zero_add, Nat.reduceAdd, List.set_cons_zero, List.set_cons_succ] at o))
    go_ret
    exact ⟨_, rfl, by rw [hr.out]; exact hS0.base (by omega), ⟨_, _, _, rfl⟩, hF.kp⟩
end Go.Proofs.YtiocomefkckbfaaDoor
