/- Tables: the program's TablePut. -/
import Derived.Test.YtbhenfegklgkoaaTq
set_option linter.unusedSimpArgs false
set_option linter.unusedVariables false
namespace Go.Proofs.Ytbhenfegklgkoaa
open Go.RowKit

theorem set3 (f b v : Value) : ∀ (T : List Ent) (k : Nat) (e : Ent), k < T.length → encE e = [f, b, v] → (((T.flatMap encE).set (k * 3) f).set (k * 3 + 1) b).set (k * 3 + 2) v = (T.set k e).flatMap encE
  | [], k, e, h, _ => by simp at h
  | x :: T, 0, e, _, he => by
    rw [List.set_cons_zero, List.flatMap_cons, List.flatMap_cons, he]; rfl
  | x :: T, k + 1, e, h, he => by
    rw [List.set_cons_succ, List.flatMap_cons, List.flatMap_cons, ← set3 f b v T k e (by simpa using h) he]
    show ((([_, _, _] ++ T.flatMap encE).set _ f).set _ b).set _ v = [_, _, _] ++ _
    simp only [List.cons_append, List.nil_append]
    rw [show (k + 1) * 3 = k * 3 + 1 + 1 + 1 by omega]
    simp only [List.set_cons_succ, Nat.add_right_comm _ 1 2, show k * 3 + 1 + 1 + 1 + 1 = (k * 3 + 1) + 1 + 1 + 1 by omega, show k * 3 + 1 + 1 + 1 + 2 = (k * 3 + 2) + 1 + 1 + 1 by omega]
theorem Own.put3 {E : TypeId} {w : World} {B g n c : Nat} {T : List Ent} (h : Own E w B (.slice (some ⟨g, 0, none⟩) n c) 3 encE T) {k : Nat} (f b v : Int) (hk : k < T.length) : Own E (((w.setCell ⟨g, k * 3, none⟩ (.int .i64 f)).setCell ⟨g, k * 3 + 1, none⟩ (.int .i64 b)).setCell ⟨g, k * 3 + 2, none⟩ (.int .i64 v)) B (.slice (some ⟨g, 0, none⟩) n c) 3 encE (T.set k (f, b, v)) := by
  obtain ⟨g', cur, e, hBg, hgl, hg, hn, hnc, hcm, hcs, htk⟩ := rowO h
  injection e with e; subst e
  have s1 := heap_setCell_same w g (k * 3) cur E (.int .i64 f) hg
  have s2 := heap_setCell_same _ g (k * 3 + 1) _ E (.int .i64 b) s1
  have s3 := heap_setCell_same _ g (k * 3 + 2) _ E (.int .i64 v) s2
  refine ownOf hBg s3 (by rw [List.length_set]; exact hn) hnc hcm (by simpa using hcs) ?_
  simp only [Array.toList_setIfInBounds]
  rw [List.take_set, List.take_set, List.take_set, htk]
  exact set3 _ _ _ T k (f, b, v) hk rfl
theorem Own.cells3 {E : TypeId} {w : World} {B g n c : Nat} {T : List Ent} (h : Own E w B (.slice (some ⟨g, 0, none⟩) n c) 3 encE T) {k : Nat} (hk : k < T.length) : (∃ x, w.cell? ⟨g, k * 3, none⟩ = some x) ∧ (∃ x, w.cell? ⟨g, k * 3 + 1, none⟩ = some x) ∧ (∃ x, w.cell? ⟨g, k * 3 + 2, none⟩ = some x) ∧ ∀ j, w.frozen? ⟨g, j, none⟩ = false := by
  have hr := h.rows (fun _ => rfl)
  have hx := List.getElem?_eq_getElem hk
  refine ⟨⟨_, by have := hr.get hx (j := 0) rfl; simpa using this⟩, ⟨_, by have := hr.get hx (j := 1) rfl; simpa using this⟩, ⟨_, by have := hr.get hx (j := 2) rfl; simpa using this⟩, fun j => ?_⟩
  obtain ⟨g', cur, e, hBg, hgl, hg, _⟩ := rowO h
  injection e with e; subst e
  unfold World.frozen?; simp [hg]
/-- At any place. -/
theorem Ins_any (T : List Ent) (f b g : Int) (k n c B be : Nat) (ao : Option Addr) (w : World) (hO : Own 29 w B (.slice ao n c) 3 encE T) (hn : T.length = n) (hk : k ≤ n) (hT : n ≤ 100) (hB : B ≤ w.heap.size) (hbe : w.heap[be]? = some (.cells #[.int .i64 f, .int .i64 b, .int .i64 g] 29 (0, 0))) (hne : ∀ aa, ao = some aa → be ≠ aa.block) :
    Calls Try.prog 61 #[.slice ao n c, .int .i64 k, .slice (some ⟨be, 0, none⟩) 1 1] w fun e w' => ∃ u, e = .returned u ∧ Own 29 w' B u 3 encE (T.take k ++ (f, b, g) :: T.drop k) ∧ Below B w w' := by
  by_cases h : k = n
  · subst h; subst hn
    have := InsEnd_any _ T f b g B be w hO hT hB hbe
    rw [List.take_length, List.drop_length]
    exact this
  · have hkn : k < n := by omega
    cases ao with
    | none =>
      obtain ⟨_, ⟨e1, e2⟩ | ⟨g', cap, cur, e1, _⟩⟩ := hO
      · injection e1 with e1 e3; omega
      · cases e1
    | some aa =>
      by_cases hr : n + 1 ≤ c
      · exact InsRoom_any (.slice (some aa) n c) T 0 0 0 k f b g n c B be aa w hO hkn hT hr hB hbe (hne aa rfl)
      · exact InsGrow_any T k f b g n c B be aa w hO hkn hT (by omega) hB hbe
set_option maxHeartbeats 4000000 in
theorem iTablePut_any (v : Value) (T : List Ent) (f b g : Int) (w : World) (hv : Tb w v T) :
    Calls Try.prog 29 #[v, .agg #[.int .i64 f, .int .i64 b, .int .i64 g]] w fun e w' => ∃ u, e = .returned (.tuple #[u, .bool (tput T (f, b, g)).2]) ∧ Own 29 w' w.heap.size u 3 encE (tput T (f, b, g)).1 ∧ Below w.heap.size w w' := by
  have hF := (Fb.start w).alloc [.int .i64 f, .int .i64 b, .int .i64 g] 29
  have hV := hv.alloc (.cells #[.int .i64 f, .int .i64 b, .int .i64 g] 29)
  obtain ⟨ao, n, c, rfl, hn⟩ := hv.sl
  clear hv
  have o := hF.own; simp only [World.size_alloc, World.size_drew, World.size_setCell, List.mem_cons, List.not_mem_nil, or_false, forall_eq_or_imp, forall_eq, At, and_true, Nat.zero_add, Nat.reduceAdd, List.set_cons_zero, List.set_cons_succ] at o
  by_cases h1 : TOk T
  · have d1 : decide (TOk T) = true := by simp [h1]
    by_cases h2 : EP3 f b g
    · have d2 : decide (EP3 f b g) = true := by simp [h2]
      have HT := Lib.hid h1
      have HE := Lib.hid h2
      have hd := Lib.hid (tput_yes (e := (f, b, g)) h1 h2)
      have hil := Lib.hid (ins_len' (e := (f, b, g)) (tok_srt h1))
      have hT12 := h1.2
      clear h1 h2
      go_enter Try.func29, Try.ntmps29
      go_wp2_with (first | (go_at_call 16; go_must (refine (iTableOk_any _ T _ hV.1).mono ?_); rintro e wx ⟨rfl, hbx⟩; replace hF := Fb.below (by repeat (first | assumption | apply Fb.alloc_1 | apply Fb.alloc_2 | apply Fb.alloc_3 | apply Fb.alloc_4 | apply Fb.alloc_5 | apply Fb.alloc_8 | apply Fb.drew | apply Fb.drewN | apply Fb.other)) hbx; replace hV := hV.below hbx; clear hbx; (try clear o); have o := hF.own; simp only [World.size_alloc, World.size_drew, World.size_setCell, List.mem_cons, List.not_mem_nil, or_false, forall_eq_or_imp, forall_eq, At, and_true, Nat.zero_add, Nat.reduceAdd, List.set_cons_zero, List.set_cons_succ] at o) | (go_at_call 44; go_must (refine (entryOk_any _ _ _ _).mono ?_); rintro e wx ⟨rfl, hbx⟩; replace hF := Fb.below (by repeat (first | assumption | apply Fb.alloc_1 | apply Fb.alloc_2 | apply Fb.alloc_3 | apply Fb.alloc_4 | apply Fb.alloc_5 | apply Fb.alloc_8 | apply Fb.drew | apply Fb.drewN | apply Fb.other)) hbx; replace hV := hV.below hbx; clear hbx; (try clear o); have o := hF.own; simp only [World.size_alloc, World.size_drew, World.size_setCell, List.mem_cons, List.not_mem_nil, or_false, forall_eq_or_imp, forall_eq, At, and_true, Nat.zero_add, Nat.reduceAdd, List.set_cons_zero, List.set_cons_succ] at o))
      refine (Clone_any _ T _ hV (by omega)).mono ?_; rintro e wy ⟨u, rfl, hO, hby⟩
      have hsy := hF.kp.size
      replace hF := hF.below hby
      replace hV := hV.below hby
      have hO2 := hO.base hsy
      clear hO hby o
      have o := hF.own; simp only [World.size_alloc, World.size_drew, World.size_setCell, List.mem_cons, List.not_mem_nil, or_false, forall_eq_or_imp, forall_eq, At, and_true, Nat.zero_add, Nat.reduceAdd, List.set_cons_zero, List.set_cons_succ] at o
      go_wp2_with fail
      refine (placeOf_any _ T f b _ hV.1 HT.out HE.out.1).mono ?_; rintro e wz ⟨k, y, rfl, hk, hbs, hy, hbz⟩
      replace hF := hF.below hbz
      have hO := hO2.below hbz
      clear hO2 hbz o
      have o := hF.own; simp only [World.size_alloc, World.size_drew, World.size_setCell, List.mem_cons, List.not_mem_nil, or_false, forall_eq_or_imp, forall_eq, At, and_true, Nat.zero_add, Nat.reduceAdd, List.set_cons_zero, List.set_cons_succ] at o
      have HY := Lib.hid hy
      have HB := Lib.hid hbs
      have hkn : k ≤ n := by have := hn.out; omega
      clear hy hbs hV
      obtain ⟨au, cu, hsl⟩ := hO.sl
      subst hsl
      rw [hn.out] at hO ⊢
      have hsz := hF.kp.size
      cases y
      · have hno : Hid (¬ ∃ x ∈ T, ecmp x (f, b, g) = 0) := fun ⟨x, hx, he⟩ => by
          obtain ⟨i, hi, ex⟩ := List.getElem_of_mem hx
          have hxi : T[i]? = some x := by rw [List.getElem?_eq_getElem hi, ex]
          have he' : ecmp x (f, b, 0) = 0 := he
          by_cases hik : i < k
          · have := HB.out.lo i x hik hxi; omega
          · by_cases e1 : i = k
            · subst e1; have := HY.out.2 ⟨x, hxi, he'⟩; cases this
            · obtain ⟨x2, hx2⟩ := get_lt (L := T) (k := k) (by omega)
              have h3 := List.pairwise_iff_getElem.1 (tok_srt HT.out) k i (List.getElem?_eq_some_iff.1 hx2).1 hi (by omega)
              rw [(List.getElem?_eq_some_iff.1 hx2).2, ex] at h3
              have h4 := HB.out.hi k x2 (Nat.le_refl _) hx2
              rw [eq_iff] at he'
              have h5 : Lt x2 (f, b, 0) := by rw [lt_iff] at h3 ⊢; dsimp only at *; omega
              have : ecmp x2 (f, b, 0) < 0 := h5
              omega
        have hlen : Hid ((ins (f, b, g) T).length = n + 1) := by show _ = _; rw [hil.out, if_neg hno.out, hn.out]
        have hat : Hid (T.take k ++ (f, b, g) :: T.drop k = ins (f, b, g) T) := ins_at (by rw [hn.out]; exact hkn) (fun i x hi hx => HB.out.lo i x hi hx) (fun x hx => by
          have h4 : 0 ≤ ecmp x (f, b, g) := HB.out.hi k x (Nat.le_refl _) hx
          have h5 : ecmp x (f, b, g) ≠ 0 := fun e => hno.out ⟨x, List.mem_of_getElem? hx, e⟩
          omega)
        by_cases h12 : n = 12
        · have d3 : ((n : Int) == 12) = true := by simp [h12]
          have hr : Hid (tput T (f, b, g) = (T, false)) := by show _ = _; rw [hd.out, hlen.out, if_pos (by omega)]
          clear h12
          go_wp2
          go_ret2
          exact ⟨_, by rw [hr.out]; rfl, by rw [hr.out]; exact hO, hF.kp⟩
        · have d3 : ((n : Int) == 12) = false := by simp; omega
          have hr : Hid (tput T (f, b, g) = (ins (f, b, g) T, true)) := by
            have hn12 : n ≤ 12 := by have := hn.out; omega
            show _ = _; rw [hd.out, hlen.out, if_neg (by omega)]
          clear h12
          go_wp2_with fail
          refine (Ins_any T f b g k n cu w.heap.size wz.heap.size au _ (hO.alloc _) hn.out hkn (by have := hn.out; omega) (hF.other _).kp.size (heap_alloc_new wz _) (fun aa e => by
            have := hO.lt aa.block (by rw [e]; rfl)
            omega)).mono ?_
          rintro e wq ⟨u, rfl, hO2, hbq⟩
          go_wp2
          go_ret2
          exact ⟨_, by rw [hr.out]; rfl, by rw [hr.out, ← hat.out]; exact hO2, (hF.other _).kp.trans hbq⟩
      · obtain ⟨y0, hy0, he0⟩ := HY.out.1 rfl
        have hklt := (List.getElem?_eq_some_iff.1 hy0).1
        have he1 : ecmp y0 (f, b, g) = 0 := he0
        have hset : Hid (T.set k (f, b, g) = ins (f, b, g) T) := ins_set (tok_srt HT.out) hy0 he1
        have hlen : Hid ((ins (f, b, g) T).length = n) := by show _ = _; rw [hil.out, if_pos ⟨y0, List.mem_of_getElem? hy0, he1⟩, hn.out]
        have hr : Hid (tput T (f, b, g) = (ins (f, b, g) T, true)) := by
          show _ = _; rw [hd.out, hlen.out, if_neg (by have := hn.out; omega)]
        rw [hn.out] at hklt
        cases au with
        | none =>
          obtain ⟨_, ⟨e1, e2⟩ | ⟨g', cap, cur, e1, _⟩⟩ := hO
          · injection e1 with e1 e3; omega
          · cases e1
        | some aa =>
          obtain ⟨gg, cur, rfl, hBg, hgl, hg, _⟩ := rowO hO
          obtain ⟨⟨x0, c0⟩, ⟨x1, c1⟩, ⟨x2, c2⟩, hfr⟩ := hO.cells3 (k := k) (by rw [hn.out]; exact hklt)
          have f0 := hfr (k * 3)
          have f1 := hfr (k * 3 + 1)
          have f2 := hfr (k * 3 + 2)
          have HO := Lib.hid (hO.put3 f b g (k := k) (by rw [hn.out]; exact hklt))
          have HBl := Lib.hid (((hF.kp.setCell (p := ⟨gg, k * 3, none⟩) hBg (.int .i64 f)).setCell (p := ⟨gg, k * 3 + 1, none⟩) hBg (.int .i64 b)).setCell (p := ⟨gg, k * 3 + 2, none⟩) hBg (.int .i64 g))
          clear hfr hO hg hy0 he0 he1 HY HB hd hil HT HE hT12
          go_wp2
          go_ret2
          exact ⟨_, by rw [hr.out]; rfl, by rw [hr.out, ← hset.out]; exact HO.out, HBl.out⟩
    · have d2 : decide (EP3 f b g) = false := by simp [h2]
      rw [tput_no (e := (f, b, g)) (fun q => h2 q.2)]
      clear h1 h2
      go_enter Try.func29, Try.ntmps29
      go_wp2_with (first | (go_at_call 16; go_must (refine (iTableOk_any _ T _ hV.1).mono ?_); rintro e wx ⟨rfl, hbx⟩; replace hF := Fb.below (by repeat (first | assumption | apply Fb.alloc_1 | apply Fb.alloc_2 | apply Fb.alloc_3 | apply Fb.alloc_4 | apply Fb.alloc_5 | apply Fb.alloc_8 | apply Fb.drew | apply Fb.drewN | apply Fb.other)) hbx; replace hV := hV.below hbx; clear hbx; (try clear o); have o := hF.own; simp only [World.size_alloc, World.size_drew, World.size_setCell, List.mem_cons, List.not_mem_nil, or_false, forall_eq_or_imp, forall_eq, At, and_true, Nat.zero_add, Nat.reduceAdd, List.set_cons_zero, List.set_cons_succ] at o) | (go_at_call 44; go_must (refine (entryOk_any _ _ _ _).mono ?_); rintro e wx ⟨rfl, hbx⟩; replace hF := Fb.below (by repeat (first | assumption | apply Fb.alloc_1 | apply Fb.alloc_2 | apply Fb.alloc_3 | apply Fb.alloc_4 | apply Fb.alloc_5 | apply Fb.alloc_8 | apply Fb.drew | apply Fb.drewN | apply Fb.other)) hbx; replace hV := hV.below hbx; clear hbx; (try clear o); have o := hF.own; simp only [World.size_alloc, World.size_drew, World.size_setCell, List.mem_cons, List.not_mem_nil, or_false, forall_eq_or_imp, forall_eq, At, and_true, Nat.zero_add, Nat.reduceAdd, List.set_cons_zero, List.set_cons_succ] at o))
      go_ret2
      exact ⟨_, rfl, Own.nil _ _ _ _ _, hF.kp⟩
  · have d1 : decide (TOk T) = false := by simp [h1]
    rw [tput_no (e := (f, b, g)) (fun q => h1 q.1)]
    clear h1
    go_enter Try.func29, Try.ntmps29
    go_wp2_with (first | (go_at_call 16; go_must (refine (iTableOk_any _ T _ hV.1).mono ?_); rintro e wx ⟨rfl, hbx⟩; replace hF := Fb.below (by repeat (first | assumption | apply Fb.alloc_1 | apply Fb.alloc_2 | apply Fb.alloc_3 | apply Fb.alloc_4 | apply Fb.alloc_5 | apply Fb.alloc_8 | apply Fb.drew | apply Fb.drewN | apply Fb.other)) hbx; replace hV := hV.below hbx; clear hbx; (try clear o); have o := hF.own; simp only [World.size_alloc, World.size_drew, World.size_setCell, List.mem_cons, List.not_mem_nil, or_false, forall_eq_or_imp, forall_eq, At, and_true, Nat.zero_add, Nat.reduceAdd, List.set_cons_zero, List.set_cons_succ] at o) | (go_at_call 44; go_must (refine (entryOk_any _ _ _ _).mono ?_); rintro e wx ⟨rfl, hbx⟩; replace hF := Fb.below (by repeat (first | assumption | apply Fb.alloc_1 | apply Fb.alloc_2 | apply Fb.alloc_3 | apply Fb.alloc_4 | apply Fb.alloc_5 | apply Fb.alloc_8 | apply Fb.drew | apply Fb.drewN | apply Fb.other)) hbx; replace hV := hV.below hbx; clear hbx; (try clear o); have o := hF.own; simp only [World.size_alloc, World.size_drew, World.size_setCell, List.mem_cons, List.not_mem_nil, or_false, forall_eq_or_imp, forall_eq, At, and_true, Nat.zero_add, Nat.reduceAdd, List.set_cons_zero, List.set_cons_succ] at o))
    go_ret2
    exact ⟨_, rfl, Own.nil _ _ _ _ _, hF.kp⟩
end Go.Proofs.Ytbhenfegklgkoaa
