/- Relations: the program's functions. -/
import Derived.Test.YtfckmgeakdbdfaaMg
import Derived.Test.YtfckmgeakdbdfaaMd
set_option linter.unusedSimpArgs false
set_option linter.unusedVariables false
namespace Go.Proofs.Ytfckmgeakdbdfaa
open Go.RowKit Go.Maps Go.WideMaps

/-- Block b is the map of M's relations. -/
def Kn (w : World) (M : List (List Int)) (b : Nat) : Prop := ∃ m D, w.ownsMap Try.prog 67 PE b m D ∧ KD D (gall M)
theorem Kn.below {w w' : World} {M : List (List Int)} {b : Nat} (h : Kn w M b) (hb : Below w.heap.size w w') : Kn w' M b := by
  obtain ⟨m, D, h1, h2⟩ := h
  exact ⟨m, D, h1.kept (below_grownBy hb) (by simp), h2⟩
theorem Kn.alloc {w : World} {M : List (List Int)} {b : Nat} (h : Kn w M b) (o : Obj) : Kn (w.alloc o) M b := h.below ((Below.refl _ _).alloc (Nat.le_refl _) _)
theorem Kn.drew {w : World} {M : List (List Int)} {b : Nat} (h : Kn w M b) : Kn w.drew M b := h.below (Below.refl _ _).drew
theorem gi_relof {M : List (List Int)} (h : RelsP M) (a c : Int) : gi (gall M) a c = relof M a c := by
  have h5 := h.2.2
  unfold gi relof
  by_cases hb : Bts a 1 M.length ∧ Bts c 1 M.length
  · have h1 := hb.1
    have h2 := hb.2
    unfold Bts at h1 h2
    rw [if_pos ⟨by omega, by omega, by omega, by omega⟩, if_pos ⟨h, hb.1, hb.2⟩]
    exact gall_eq M (by omega) (by omega)
  · rw [show (if RelsP M ∧ Bts a 1 (M.length : Int) ∧ Bts c 1 (M.length : Int) then mgi M a c else 0) = 0 from if_neg (fun g => hb g.2)]
    split
    · rename_i hg
      refine gall_out M (fun g => hb ⟨⟨by omega, by omega⟩, ⟨by omega, by omega⟩⟩)
    · rfl

theorem of_any (M : List (List Int)) (n : Int) (b : Nat) (a c : Int) (w : World) (hp : RelsP M) (hK : Kn w M b) (ha : -1000000 ≤ a) (ha' : a ≤ 1000000) (hc : -1000000 ≤ c) (hc' : c ≤ 1000000) :
    Calls Try.prog 43 #[.agg #[.int .i64 n, .map (some b)], .int .i64 a, .int .i64 c] w fun e w' => e = .returned (.int .i64 (relof M a c)) ∧ Below w.heap.size w w' := by
  obtain ⟨m, D, h1, h2⟩ := hK
  have hl := KD.run (h1.alloc (.cells #[.int .i64 n, .map (some b)] 50)) h2 ha ha' hc hc'
  rw [gi_relof hp] at hl
  clear h1 h2
  go_enter Try.func43, Try.ntmps43
  go_wp2
  go_ret
  exact ⟨rfl, (Below.refl _ _).alloc (Nat.le_refl _) _⟩
theorem has_any (n h : Int) (v : Value) (w : World) (hv : v.oneCell' = true) :
    Calls Try.prog 45 #[.agg #[.int .i64 n, v], .int .i64 h] w fun e w' => e = .returned (.bool (decide (Bts h 1 n))) ∧ Below w.heap.size w w' := by
  by_cases h1 : 1 ≤ h
  · have d1 : decide (1 ≤ h) = true := by simp [h1]
    go_enter Try.func45, Try.ntmps45
    go_wp2
    go_ret
    exact ⟨ret_bool (by rw [Bool.eq_iff_iff]; simp only [decide_eq_true_eq, Bool.and_eq_true, Bool.false_eq_true, Bool.true_eq_false]; unfold Bts; omega), (Below.refl _ _).alloc (Nat.le_refl _) _⟩
  · have d1 : decide (1 ≤ h) = false := by simp; omega
    go_enter Try.func45, Try.ntmps45
    go_wp2
    go_ret
    refine ⟨ret_bool ?_, (Below.refl _ _).alloc (Nat.le_refl _) _⟩
    have hb : decide (Bts h 1 n) = false := by rw [decide_eq_false_iff_not]; unfold Bts; omega
    rw [hb]

/-- What readRels hands back, in two ways. -/
theorem readRels_yes (v : Value) (M : List (List Int)) (w : World) (hM : Mat w v M) (hp : RelsP M) :
    Calls Try.prog 40 #[v] w fun e w' => ∃ b, e = .returned (.tuple #[.agg #[.int .i64 M.length, .map (some b)], .bool true]) ∧ Kn w' M b ∧ Below w.heap.size w w' :=
  (readRels_any v M w hM).mono fun e w' h => by
    rcases h with ⟨⟨_, b, m, D, he, h1, h2⟩ | ⟨hn, _⟩, hB⟩
    · exact ⟨b, he, ⟨m, D, h1, h2⟩, hB⟩
    · exact (hn hp).elim
theorem readRels_no (v : Value) (M : List (List Int)) (w : World) (hM : Mat w v M) (hp : ¬ RelsP M) :
    Calls Try.prog 40 #[v] w fun e w' => e = .returned (.tuple #[.agg #[.int .i64 0, .map none], .bool false]) ∧ Below w.heap.size w w' :=
  (readRels_any v M w hM).mono fun e w' h => by
    rcases h with ⟨⟨hn, _⟩ | ⟨_, he⟩, hB⟩
    · exact (hp hn).elim
    · exact ⟨he, hB⟩

theorem iRelsOk_any (v : Value) (M : List (List Int)) (w : World) (hM : Mat w v M) :
    Calls Try.prog 14 #[v] w fun e w' => e = .returned (.bool (decide (RelsP M))) ∧ Below w.heap.size w w' := by
  by_cases hp : RelsP M
  · have d : decide (RelsP M) = true := by simp [hp]
    rw [d]
    have HC := Lib.hid (readRels_yes v M w hM hp)
    clear hM hp d
    go_enter Try.func14, Try.ntmps14
    go_wp2_with fail
    refine HC.out.mono ?_; rintro e w1 ⟨b, rfl, -, hb⟩
    go_wp2
    go_ret
    exact ⟨rfl, hb.alloc hb.size _⟩
  · have d : decide (RelsP M) = false := by simp [hp]
    rw [d]
    have HC := Lib.hid (readRels_no v M w hM hp)
    clear hM hp d
    go_enter Try.func14, Try.ntmps14
    go_wp2_with fail
    refine HC.out.mono ?_; rintro e w1 ⟨rfl, hb⟩
    go_wp2
    go_ret
    exact ⟨rfl, hb.alloc hb.size _⟩
theorem iRelOf_any (v : Value) (M : List (List Int)) (a c : Int) (w : World) (hM : Mat w v M) (ha : -1000000 ≤ a) (ha' : a ≤ 1000000) (hc : -1000000 ≤ c) (hc' : c ≤ 1000000) :
    Calls Try.prog 17 #[v, .int .i64 a, .int .i64 c] w fun e w' => e = .returned (.int .i64 (relof M a c)) ∧ Below w.heap.size w w' := by
  by_cases hp : RelsP M
  · have HC := Lib.hid (readRels_yes v M w hM hp)
    have HP := Lib.hid hp
    clear hM hp
    go_enter Try.func17, Try.ntmps17
    go_wp2_with fail
    refine HC.out.mono ?_; rintro e w1 ⟨b, rfl, hK, hb⟩
    have HK := Lib.hid hK; clear hK
    go_wp2_with fail
    refine (of_any M _ b a c _ HP.out (HK.out.alloc _) ha ha' hc hc').mono ?_; rintro e w2 ⟨rfl, hb2⟩
    go_wp2
    go_ret
    exact ⟨rfl, (hb.alloc hb.size _).trans (hb2.mono (by have := hb.size; simp; omega))⟩
  · have HC := Lib.hid (readRels_no v M w hM hp)
    have hr : relof M a c = 0 := by unfold relof; rw [if_neg (fun g => hp g.1)]
    rw [hr]
    clear hM hp hr
    go_enter Try.func17, Try.ntmps17
    go_wp2_with fail
    refine HC.out.mono ?_; rintro e w1 ⟨rfl, hb⟩
    go_wp2
    go_ret
    exact ⟨rfl, hb.alloc hb.size _⟩

def MayR (M : List (List Int)) (h o t : Int) : Prop := relof M h t ≠ 0 ∧ (o = 0 ∨ relof M h o = 1 ∨ relof M h t = 1)
instance (M : List (List Int)) (h o t : Int) : Decidable (MayR M h o t) := by unfold MayR; infer_instance
set_option maxHeartbeats 1000000 in
theorem exports_any (M : List (List Int)) (n : Int) (b : Nat) (h o t : Int) (w : World) (hp : RelsP M) (hK : Kn w M b) (hh : -1000000 ≤ h) (hh' : h ≤ 1000000) (ho : -1000000 ≤ o) (ho' : o ≤ 1000000) (ht : -1000000 ≤ t) (ht' : t ≤ 1000000) :
    Calls Try.prog 46 #[.agg #[.int .i64 n, .map (some b)], .int .i64 h, .int .i64 o, .int .i64 t] w fun e w' => e = .returned (.bool (decide (MayR M h o t))) ∧ Below w.heap.size w w' := by
  have hF := Fb.start w
  have HP := Lib.hid hp
  clear hp
  by_cases h1 : relof M h t = 0
  · have e1 : (relof M h t != 0) = false := by simp [h1]
    have hr : decide (MayR M h o t) = false := by simp [MayR, h1]
    rw [hr]; clear hr h1
    go_enter Try.func46, Try.ntmps46
    go_wp2_with (go_at_call 43; go_must (refine (of_any M _ b _ _ _ HP.out (by repeat (first | assumption | apply Kn.alloc | apply Kn.drew)) (by assumption) (by assumption) (by assumption) (by assumption)).mono ?_); rintro e wx ⟨rfl, hbx⟩; replace hF := Fb.below (by repeat (first | assumption | apply Fb.alloc_1 | apply Fb.alloc_2 | apply Fb.alloc_3 | apply Fb.alloc_4 | apply Fb.alloc_5 | apply Fb.alloc_8 | apply Fb.drew | apply Fb.drewN | apply Fb.other)) hbx; replace hK := Kn.below (by repeat (first | assumption | apply Kn.alloc | apply Kn.drew)) hbx; clear hbx; (try clear o); have o := hF.own; simp only [World.size_alloc, World.size_drew, World.size_setCell, List.mem_cons, List.not_mem_nil, or_false, forall_eq_or_imp, forall_eq, At, and_true, Nat.zero_add, Nat.reduceAdd, List.set_cons_zero, List.set_cons_succ] at o)
    go_ret
    exact ⟨rfl, Fb.kp (by repeat (first | assumption | apply Fb.alloc_1 | apply Fb.alloc_2 | apply Fb.alloc_3 | apply Fb.alloc_4 | apply Fb.alloc_5 | apply Fb.alloc_8 | apply Fb.drew | apply Fb.drewN | apply Fb.other))⟩
  have e1 : (relof M h t != 0) = true := by simp [h1]
  by_cases h2 : o = 0
  · have e2 : (o == 0) = true := by simp [h2]
    have hr : decide (MayR M h o t) = true := by simp [MayR, h1, h2]
    rw [hr]; clear hr h1 h2
    go_enter Try.func46, Try.ntmps46
    go_wp2_with (go_at_call 43; go_must (refine (of_any M _ b _ _ _ HP.out (by repeat (first | assumption | apply Kn.alloc | apply Kn.drew)) (by assumption) (by assumption) (by assumption) (by assumption)).mono ?_); rintro e wx ⟨rfl, hbx⟩; replace hF := Fb.below (by repeat (first | assumption | apply Fb.alloc_1 | apply Fb.alloc_2 | apply Fb.alloc_3 | apply Fb.alloc_4 | apply Fb.alloc_5 | apply Fb.alloc_8 | apply Fb.drew | apply Fb.drewN | apply Fb.other)) hbx; replace hK := Kn.below (by repeat (first | assumption | apply Kn.alloc | apply Kn.drew)) hbx; clear hbx; (try clear o); have o := hF.own; simp only [World.size_alloc, World.size_drew, World.size_setCell, List.mem_cons, List.not_mem_nil, or_false, forall_eq_or_imp, forall_eq, At, and_true, Nat.zero_add, Nat.reduceAdd, List.set_cons_zero, List.set_cons_succ] at o)
    go_ret
    exact ⟨rfl, Fb.kp (by repeat (first | assumption | apply Fb.alloc_1 | apply Fb.alloc_2 | apply Fb.alloc_3 | apply Fb.alloc_4 | apply Fb.alloc_5 | apply Fb.alloc_8 | apply Fb.drew | apply Fb.drewN | apply Fb.other))⟩
  have e2 : (o == 0) = false := by simp [h2]
  by_cases h3 : relof M h o = 1
  · have e3 : (relof M h o == 1) = true := by simp [h3]
    have hr : decide (MayR M h o t) = true := by simp [MayR, h1, h3]
    rw [hr]; clear hr h1 h2 h3
    go_enter Try.func46, Try.ntmps46
    go_wp2_with (go_at_call 43; go_must (refine (of_any M _ b _ _ _ HP.out (by repeat (first | assumption | apply Kn.alloc | apply Kn.drew)) (by assumption) (by assumption) (by assumption) (by assumption)).mono ?_); rintro e wx ⟨rfl, hbx⟩; replace hF := Fb.below (by repeat (first | assumption | apply Fb.alloc_1 | apply Fb.alloc_2 | apply Fb.alloc_3 | apply Fb.alloc_4 | apply Fb.alloc_5 | apply Fb.alloc_8 | apply Fb.drew | apply Fb.drewN | apply Fb.other)) hbx; replace hK := Kn.below (by repeat (first | assumption | apply Kn.alloc | apply Kn.drew)) hbx; clear hbx; (try clear o); have o := hF.own; simp only [World.size_alloc, World.size_drew, World.size_setCell, List.mem_cons, List.not_mem_nil, or_false, forall_eq_or_imp, forall_eq, At, and_true, Nat.zero_add, Nat.reduceAdd, List.set_cons_zero, List.set_cons_succ] at o)
    go_ret
    exact ⟨rfl, Fb.kp (by repeat (first | assumption | apply Fb.alloc_1 | apply Fb.alloc_2 | apply Fb.alloc_3 | apply Fb.alloc_4 | apply Fb.alloc_5 | apply Fb.alloc_8 | apply Fb.drew | apply Fb.drewN | apply Fb.other))⟩
  have e3 : (relof M h o == 1) = false := by simp [h3]
  by_cases h4 : relof M h t = 1
  · have e4 : (relof M h t == 1) = true := by simp [h4]
    have hr : decide (MayR M h o t) = true := by simp [MayR, h4]
    rw [hr]; clear hr h1 h2 h3 h4
    go_enter Try.func46, Try.ntmps46
    go_wp2_with (go_at_call 43; go_must (refine (of_any M _ b _ _ _ HP.out (by repeat (first | assumption | apply Kn.alloc | apply Kn.drew)) (by assumption) (by assumption) (by assumption) (by assumption)).mono ?_); rintro e wx ⟨rfl, hbx⟩; replace hF := Fb.below (by repeat (first | assumption | apply Fb.alloc_1 | apply Fb.alloc_2 | apply Fb.alloc_3 | apply Fb.alloc_4 | apply Fb.alloc_5 | apply Fb.alloc_8 | apply Fb.drew | apply Fb.drewN | apply Fb.other)) hbx; replace hK := Kn.below (by repeat (first | assumption | apply Kn.alloc | apply Kn.drew)) hbx; clear hbx; (try clear o); have o := hF.own; simp only [World.size_alloc, World.size_drew, World.size_setCell, List.mem_cons, List.not_mem_nil, or_false, forall_eq_or_imp, forall_eq, At, and_true, Nat.zero_add, Nat.reduceAdd, List.set_cons_zero, List.set_cons_succ] at o)
    go_ret
    exact ⟨rfl, Fb.kp (by repeat (first | assumption | apply Fb.alloc_1 | apply Fb.alloc_2 | apply Fb.alloc_3 | apply Fb.alloc_4 | apply Fb.alloc_5 | apply Fb.alloc_8 | apply Fb.drew | apply Fb.drewN | apply Fb.other))⟩
  · have e4 : (relof M h t == 1) = false := by simp [h4]
    have hr : decide (MayR M h o t) = false := by simp [MayR, h2, h3, h4]
    rw [hr]; clear hr h1 h2 h3 h4
    go_enter Try.func46, Try.ntmps46
    go_wp2_with (go_at_call 43; go_must (refine (of_any M _ b _ _ _ HP.out (by repeat (first | assumption | apply Kn.alloc | apply Kn.drew)) (by assumption) (by assumption) (by assumption) (by assumption)).mono ?_); rintro e wx ⟨rfl, hbx⟩; replace hF := Fb.below (by repeat (first | assumption | apply Fb.alloc_1 | apply Fb.alloc_2 | apply Fb.alloc_3 | apply Fb.alloc_4 | apply Fb.alloc_5 | apply Fb.alloc_8 | apply Fb.drew | apply Fb.drewN | apply Fb.other)) hbx; replace hK := Kn.below (by repeat (first | assumption | apply Kn.alloc | apply Kn.drew)) hbx; clear hbx; (try clear o); have o := hF.own; simp only [World.size_alloc, World.size_drew, World.size_setCell, List.mem_cons, List.not_mem_nil, or_false, forall_eq_or_imp, forall_eq, At, and_true, Nat.zero_add, Nat.reduceAdd, List.set_cons_zero, List.set_cons_succ] at o)
    go_ret
    exact ⟨rfl, Fb.kp (by repeat (first | assumption | apply Fb.alloc_1 | apply Fb.alloc_2 | apply Fb.alloc_3 | apply Fb.alloc_4 | apply Fb.alloc_5 | apply Fb.alloc_8 | apply Fb.drew | apply Fb.drewN | apply Fb.other))⟩

theorem mayP_r (M : List (List Int)) (h o t : Int) : MayP M h o t ↔ RelsP M ∧ Bts h 1 M.length ∧ Bts t 1 M.length ∧ (o = 0 ∨ Bts o 1 M.length) ∧ MayR M h o t := by
  unfold MayP MayR May1
  constructor
  · rintro ⟨h1, h2, h3, h4, h5, h6⟩
    have ho : o = 0 ∨ Bts o 1 M.length := by unfold Bts at *; omega
    have e1 : relof M h t = mgi M h t := by unfold relof; rw [if_pos ⟨h1, h2, h4⟩]
    refine ⟨h1, h2, h4, ho, by rw [e1]; exact h5, ?_⟩
    rw [e1]
    rcases ho with ho | ho
    · exact Or.inl ho
    · have e2 : relof M h o = mgi M h o := by unfold relof; rw [if_pos ⟨h1, h2, ho⟩]
      rw [e2]; exact h6
  · rintro ⟨h1, h2, h4, ho, h5, h6⟩
    have e1 : relof M h t = mgi M h t := by unfold relof; rw [if_pos ⟨h1, h2, h4⟩]
    rw [e1] at h5 h6
    have hn := h1.2.1
    refine ⟨h1, h2, by unfold Bts at *; omega, h4, h5, ?_⟩
    rcases ho with ho | ho
    · exact Or.inl ho
    · have e2 : relof M h o = mgi M h o := by unfold relof; rw [if_pos ⟨h1, h2, ho⟩]
      rw [e2] at h6; exact h6
end Go.Proofs.Ytfckmgeakdbdfaa
