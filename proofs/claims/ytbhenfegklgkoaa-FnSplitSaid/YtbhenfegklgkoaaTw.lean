/- Tables: the program's TableDrop. -/
import Derived.Test.YtbhenfegklgkoaaTv
set_option linter.unusedSimpArgs false
set_option linter.unusedVariables false
namespace Go.Proofs.Ytbhenfegklgkoaa
open Go.RowKit

/-- What stands at its place is not there, if the place is not its. -/
theorem none_at {T : List Ent} {f b : Int} {k : Nat} (hT : Srt T) (hb : Bs T (f, b, 0) k k) (hn : ¬ ∃ x, T[k]? = some x ∧ ecmp x (f, b, 0) = 0) : ∀ x ∈ T, ecmp x (f, b, 0) ≠ 0 := fun x hx he => by
  obtain ⟨i, hi, ex⟩ := List.getElem_of_mem hx
  have hxi : T[i]? = some x := by rw [List.getElem?_eq_getElem hi, ex]
  by_cases hik : i < k
  · have := hb.lo i x hik hxi; omega
  · by_cases e1 : i = k
    · subst e1; exact hn ⟨x, hxi, he⟩
    · obtain ⟨x2, hx2⟩ := get_lt (L := T) (k := k) (by omega)
      have h3 := List.pairwise_iff_getElem.1 hT k i (List.getElem?_eq_some_iff.1 hx2).1 hi (by omega)
      rw [(List.getElem?_eq_some_iff.1 hx2).2, ex] at h3
      have h4 := hb.hi k x2 (Nat.le_refl _) hx2
      rw [eq_iff] at he
      have h5 : Lt x2 (f, b, 0) := by rw [lt_iff] at h3 ⊢; dsimp only at *; omega
      have : ecmp x2 (f, b, 0) < 0 := h5
      omega
theorem offR_ne {f b g : Int} {x : Ent} : offR (f, b) x = true ↔ ecmp x (f, b, g) ≠ 0 := by rw [offR_iff, Ne, eq_iff]
theorem drp_none {T : List Ent} {f b : Int} (h : ∀ x ∈ T, ecmp x (f, b, 0) ≠ 0) : drp T (f, b) = T := by
  unfold drp
  exact List.filter_eq_self.2 fun x hx => offR_ne.2 (h x hx)
theorem drp_at {T : List Ent} {f b : Int} {k : Nat} {x : Ent} (hT : Srt T) (hx : T[k]? = some x) (he : ecmp x (f, b, 0) = 0) : drp T (f, b) = T.take k ++ T.drop (k + 1) := by
  have hk := (List.getElem?_eq_some_iff.1 hx).1
  have hs : T = T.take k ++ x :: T.drop (k + 1) := by
    rw [← (List.getElem?_eq_some_iff.1 hx).2, List.getElem_cons_drop, List.take_append_drop]
  have hp := hT
  unfold Srt at hp
  rw [hs, List.pairwise_append, List.pairwise_cons] at hp
  obtain ⟨-, ⟨h2, -⟩, h3⟩ := hp
  have hxe : ∀ y : Ent, ecmp y x ≠ 0 → ecmp y (f, b, 0) ≠ 0 := fun y h g => h (by rw [eq_iff] at *; omega)
  unfold drp
  conv => lhs; rw [hs]
  rw [List.filter_append, List.filter_cons, if_neg (by rw [offR_ne (g := 0)]; exact fun g => g he)]
  rw [List.filter_eq_self.2 fun y hy => offR_ne.2 (hxe y (Lt.ne (h3 y hy x List.mem_cons_self))), List.filter_eq_self.2 fun y hy => offR_ne.2 (hxe y fun g => Lt.ne (h2 y hy) (eq_symm.1 g))]
theorem ents_sub {w : World} {b off n c : Nat} {T : List Ent} (h : Ents w (.slice (some ⟨b, off, none⟩) n c) T) (hn : T.length = n) (hnc : n ≤ c) (hcc : c ≤ 9223372036854775807) {k : Nat} (hk : k < n) : Ents w (.slice (some ⟨b, off, none⟩) k c) (T.take k) ∧ Ents w (.slice (some ⟨b, off + (k + 1) * 3, none⟩) (n - (k + 1)) (c - (k + 1))) (T.drop (k + 1)) := by
  have h1 := Rows.sub h (i := 0) (j := k) (c' := c) (by omega) (by omega) (by omega) hcc
  have h2 := Rows.sub h (i := k + 1) (j := n) (c' := c - (k + 1)) (by omega) (by omega) (by omega) (by omega)
  rw [List.take_of_length_le (by omega)] at h2
  rw [Nat.zero_mul, Nat.sub_zero, List.drop_zero] at h1
  exact ⟨h1, h2⟩
set_option maxHeartbeats 4000000 in
theorem iTableDrop_any (v : Value) (T : List Ent) (f b : Int) (w : World) (hv : Tb w v T) :
    Calls Try.prog 34 #[v, .agg #[.int .i64 f, .int .i64 b]] w fun e w' => ∃ u, e = .returned (.tuple #[u, .bool (tdrp T (f, b)).2]) ∧ Own 29 w' w.heap.size u 3 encE (tdrp T (f, b)).1 ∧ Below w.heap.size w w' := by
  have hF := (Fb.start w).alloc [.int .i64 f, .int .i64 b] 27
  have hV := hv.alloc (.cells #[.int .i64 f, .int .i64 b] 27)
  obtain ⟨ao, n, c, rfl, hn⟩ := hv.sl
  have o := hF.own; simp only [World.size_alloc, World.size_drew, World.size_setCell, List.mem_cons, List.not_mem_nil, or_false, forall_eq_or_imp, forall_eq, At, and_true, Nat.zero_add, Nat.reduceAdd, List.set_cons_zero, List.set_cons_succ] at o
  by_cases h1 : TOk T
  · have d1 : decide (TOk T) = true := by simp [h1]
    by_cases h2 : ROk f b
    · have d2 : decide (ROk f b) = true := by simp [h2]
      rw [tdrp_yes h1 h2]
      have HT := Lib.hid h1
      have HE := Lib.hid h2
      have hT12 := h1.2
      clear h1 h2
      go_enter Try.func34, Try.ntmps34
      go_wp2_with (first | (go_at_call 16; go_must (refine (iTableOk_any _ T _ hV.1).mono ?_); rintro e wx ⟨rfl, hbx⟩; replace hF := Fb.below (by repeat (first | assumption | apply Fb.alloc_1 | apply Fb.alloc_2 | apply Fb.alloc_3 | apply Fb.alloc_4 | apply Fb.alloc_5 | apply Fb.alloc_8 | apply Fb.drew | apply Fb.drewN | apply Fb.other)) hbx; replace hV := hV.below hbx; clear hbx; (try clear o); have o := hF.own; simp only [World.size_alloc, World.size_drew, World.size_setCell, List.mem_cons, List.not_mem_nil, or_false, forall_eq_or_imp, forall_eq, At, and_true, Nat.zero_add, Nat.reduceAdd, List.set_cons_zero, List.set_cons_succ] at o) | (go_at_call 53; go_must (refine (iRangeOk_any _ _ _).mono ?_); rintro e wx ⟨rfl, hbx⟩; replace hF := Fb.below (by repeat (first | assumption | apply Fb.alloc_1 | apply Fb.alloc_2 | apply Fb.alloc_3 | apply Fb.alloc_4 | apply Fb.alloc_5 | apply Fb.alloc_8 | apply Fb.drew | apply Fb.drewN | apply Fb.other)) hbx; replace hV := hV.below hbx; clear hbx; (try clear o); have o := hF.own; simp only [World.size_alloc, World.size_drew, World.size_setCell, List.mem_cons, List.not_mem_nil, or_false, forall_eq_or_imp, forall_eq, At, and_true, Nat.zero_add, Nat.reduceAdd, List.set_cons_zero, List.set_cons_succ] at o))
      refine (placeOf_any _ T f b _ hV.1 HT.out HE.out).mono ?_; rintro e wz ⟨k, y, rfl, hk, hbs, hy, hbz⟩
      replace hF := hF.below hbz
      replace hV := hV.below hbz
      clear hbz o
      have o := hF.own; simp only [World.size_alloc, World.size_drew, World.size_setCell, List.mem_cons, List.not_mem_nil, or_false, forall_eq_or_imp, forall_eq, At, and_true, Nat.zero_add, Nat.reduceAdd, List.set_cons_zero, List.set_cons_succ] at o
      have HY := Lib.hid hy
      have HB := Lib.hid hbs
      have hkn : k ≤ n := by have := hn.out; omega
      clear hy hbs
      cases y
      · have hd : Hid (drp T (f, b) = T) := drp_none (none_at (tok_srt HT.out) HB.out (fun g => by have := HY.out.2 g; cases this))
        go_wp2_with fail
        refine (Clone_any _ T _ hV (by omega)).mono ?_; rintro e wy ⟨u, rfl, hO, hby⟩
        have hsz := hF.kp.size
        go_wp2
        go_ret2
        exact ⟨u, by rw [hd.out]; simp, by rw [hd.out]; exact hO.base hsz, (hF.below hby).kp⟩
      · obtain ⟨y0, hy0, he0⟩ := HY.out.1 rfl
        have hklt := (List.getElem?_eq_some_iff.1 hy0).1
        rw [hn.out] at hklt
        have hd : Hid (drp T (f, b) = T.take k ++ T.drop (k + 1)) := drp_at (tok_srt HT.out) hy0 he0
        have hdl : Hid (decide ((drp T (f, b)).length < T.length) = true) := by
          show _ = _; rw [hd.out]
          apply decide_eq_true
          rw [List.length_append, List.length_take, List.length_drop]
          have := hn.out; omega
        clear hy0 he0 HY HB
        rcases hv.cases with ⟨e1, e2⟩ | ⟨b0, off, n', c', e1, _, hnc, hcc⟩
        · injection e1 with _ e1 _; omega
        injection e1 with e1 e2 e3
        subst e1; subst e2; subst e3
        have hsub := ents_sub hv.1 hn.out hnc hcc hklt
        have HS := Lib.hid hsub
        have hn12 : n ≤ 12 := by have := hn.out; omega
        clear hsub hv hV
        have hw1 : IntKind.i64.wrap ((k : Int) + 1) = (k : Int) + 1 := by rw [IntKind.wrap_i64]; omega
        have hb1 : (0 : Int) ≤ (k : Int) + 1 := by omega
        have htn : ((k : Int) + 1).toNat = k + 1 := by omega
        have hkn1 : k + 1 ≤ n := by omega
        by_cases hck : c = k + 1
        · have hs2 : Hid (Ents w (.slice (some ⟨b0, off, none⟩) (n - (k + 1)) 0) (T.drop (k + 1))) := by
            have e1 : T.drop (k + 1) = [] := List.drop_eq_nil_of_le (by have := hn.out; omega)
            have e2 : n - (k + 1) = 0 := by omega
            rw [e1, e2]; exact Rows.nil _ _ _ (by omega) _ _
          have hs1 : Hid (Ents w (.slice (some ⟨b0, off, none⟩) k (k + 1)) (T.take k)) := by
            have := HS.out.1; rwa [hck] at this
          clear HS
          go_wp2
          go_region_with (go_at_call 62; go_must (refine (Concat_any _ b0 off k (k + 1) b0 off (n - (k + 1)) 0 (T.take k) (T.drop (k + 1)) _ (by simp) (hs1.out.below (Fb.kp (by repeat (first | assumption | apply Fb.alloc_1 | apply Fb.alloc_2 | apply Fb.alloc_3 | apply Fb.alloc_4 | apply Fb.alloc_5 | apply Fb.alloc_8 | apply Fb.drew | apply Fb.drewN | apply Fb.other)))) (hs2.out.below (Fb.kp (by repeat (first | assumption | apply Fb.alloc_1 | apply Fb.alloc_2 | apply Fb.alloc_3 | apply Fb.alloc_4 | apply Fb.alloc_5 | apply Fb.alloc_8 | apply Fb.drew | apply Fb.drewN | apply Fb.other)))) (by omega) (by omega)).mono ?_); rintro e wx ⟨u, rfl, hO, hbx⟩)
          all_goals (try go_wp2)
          all_goals go_ret2
          all_goals exact ⟨u, by rw [hdl.out]; rfl, by rw [hd.out]; exact hO.base (by have := hF.kp.size; simp; omega), Below.trans (Fb.kp (by repeat (first | assumption | apply Fb.alloc_1 | apply Fb.alloc_2 | apply Fb.alloc_3 | apply Fb.alloc_4 | apply Fb.alloc_5 | apply Fb.alloc_8 | apply Fb.drew | apply Fb.drewN | apply Fb.other))) (hbx.mono (by have := hF.kp.size; simp; omega))⟩
        · have hck' : ¬ (c = k + 1) := hck
          go_wp2
          go_region_with (go_at_call 62; go_must (refine (Concat_any _ b0 off k c b0 (off + (k + 1) * 3) (n - (k + 1)) (c - (k + 1)) (T.take k) (T.drop (k + 1)) _ (by simp) (HS.out.1.below (Fb.kp (by repeat (first | assumption | apply Fb.alloc_1 | apply Fb.alloc_2 | apply Fb.alloc_3 | apply Fb.alloc_4 | apply Fb.alloc_5 | apply Fb.alloc_8 | apply Fb.drew | apply Fb.drewN | apply Fb.other)))) (HS.out.2.below (Fb.kp (by repeat (first | assumption | apply Fb.alloc_1 | apply Fb.alloc_2 | apply Fb.alloc_3 | apply Fb.alloc_4 | apply Fb.alloc_5 | apply Fb.alloc_8 | apply Fb.drew | apply Fb.drewN | apply Fb.other)))) (by omega) (by omega)).mono ?_); rintro e wx ⟨u, rfl, hO, hbx⟩)
          all_goals (try go_wp2)
          all_goals go_ret2
          all_goals exact ⟨u, by rw [hdl.out]; rfl, by rw [hd.out]; exact hO.base (by have := hF.kp.size; simp; omega), Below.trans (Fb.kp (by repeat (first | assumption | apply Fb.alloc_1 | apply Fb.alloc_2 | apply Fb.alloc_3 | apply Fb.alloc_4 | apply Fb.alloc_5 | apply Fb.alloc_8 | apply Fb.drew | apply Fb.drewN | apply Fb.other))) (hbx.mono (by have := hF.kp.size; simp; omega))⟩
    · have d2 : decide (ROk f b) = false := by simp [h2]
      rw [tdrp_no (fun g => h2 g.2)]
      clear h1 h2
      go_enter Try.func34, Try.ntmps34
      go_wp2_with (first | (go_at_call 16; go_must (refine (iTableOk_any _ T _ hV.1).mono ?_); rintro e wx ⟨rfl, hbx⟩; replace hF := Fb.below (by repeat (first | assumption | apply Fb.alloc_1 | apply Fb.alloc_2 | apply Fb.alloc_3 | apply Fb.alloc_4 | apply Fb.alloc_5 | apply Fb.alloc_8 | apply Fb.drew | apply Fb.drewN | apply Fb.other)) hbx; replace hV := hV.below hbx; clear hbx; (try clear o); have o := hF.own; simp only [World.size_alloc, World.size_drew, World.size_setCell, List.mem_cons, List.not_mem_nil, or_false, forall_eq_or_imp, forall_eq, At, and_true, Nat.zero_add, Nat.reduceAdd, List.set_cons_zero, List.set_cons_succ] at o) | (go_at_call 53; go_must (refine (iRangeOk_any _ _ _).mono ?_); rintro e wx ⟨rfl, hbx⟩; replace hF := Fb.below (by repeat (first | assumption | apply Fb.alloc_1 | apply Fb.alloc_2 | apply Fb.alloc_3 | apply Fb.alloc_4 | apply Fb.alloc_5 | apply Fb.alloc_8 | apply Fb.drew | apply Fb.drewN | apply Fb.other)) hbx; replace hV := hV.below hbx; clear hbx; (try clear o); have o := hF.own; simp only [World.size_alloc, World.size_drew, World.size_setCell, List.mem_cons, List.not_mem_nil, or_false, forall_eq_or_imp, forall_eq, At, and_true, Nat.zero_add, Nat.reduceAdd, List.set_cons_zero, List.set_cons_succ] at o))
      go_ret2
      exact ⟨_, rfl, Own.nil _ _ _ _ _, hF.kp⟩
  · have d1 : decide (TOk T) = false := by simp [h1]
    rw [tdrp_no (fun g => h1 g.1)]
    clear h1
    go_enter Try.func34, Try.ntmps34
    go_wp2_with (first | (go_at_call 16; go_must (refine (iTableOk_any _ T _ hV.1).mono ?_); rintro e wx ⟨rfl, hbx⟩; replace hF := Fb.below (by repeat (first | assumption | apply Fb.alloc_1 | apply Fb.alloc_2 | apply Fb.alloc_3 | apply Fb.alloc_4 | apply Fb.alloc_5 | apply Fb.alloc_8 | apply Fb.drew | apply Fb.drewN | apply Fb.other)) hbx; replace hV := hV.below hbx; clear hbx; (try clear o); have o := hF.own; simp only [World.size_alloc, World.size_drew, World.size_setCell, List.mem_cons, List.not_mem_nil, or_false, forall_eq_or_imp, forall_eq, At, and_true, Nat.zero_add, Nat.reduceAdd, List.set_cons_zero, List.set_cons_succ] at o) | (go_at_call 53; go_must (refine (iRangeOk_any _ _ _).mono ?_); rintro e wx ⟨rfl, hbx⟩; replace hF := Fb.below (by repeat (first | assumption | apply Fb.alloc_1 | apply Fb.alloc_2 | apply Fb.alloc_3 | apply Fb.alloc_4 | apply Fb.alloc_5 | apply Fb.alloc_8 | apply Fb.drew | apply Fb.drewN | apply Fb.other)) hbx; replace hV := hV.below hbx; clear hbx; (try clear o); have o := hF.own; simp only [World.size_alloc, World.size_drew, World.size_setCell, List.mem_cons, List.not_mem_nil, or_false, forall_eq_or_imp, forall_eq, At, and_true, Nat.zero_add, Nat.reduceAdd, List.set_cons_zero, List.set_cons_succ] at o))
    go_ret2
    exact ⟨_, rfl, Own.nil _ _ _ _ _, hF.kp⟩
end Go.Proofs.Ytbhenfegklgkoaa
