/- FnRangeTexts: the walk. -/
import Derived.Test.YtbhenfegklgkoaaDoorEs
import Derived.Test.YtbhenfegklgkoaaDoorDy
import Derived.Test.YtbhenfegklgkoaaDoorR3
import Derived.Test.YtbhenfegklgkoaaDoorKe
set_option linter.unusedSimpArgs false
set_option linter.unusedVariables false
namespace Go.Proofs.YtbhenfegklgkoaaDoor
open Go.RowKit

def txt (f b : Int) : ByteArray := tI f ++ ⟨#[47]⟩ ++ tI b
theorem txt_list (f b : Int) : (txt f b).data.toList = Lib.itoa f ++ 47 :: Lib.itoa b := by
  unfold txt tI
  simp [ByteArray.data_append]
theorem RangeText_any (f b : Int) (h : ROk f b) (w : World) (htab : Tab w) :
    Calls Tryd.prog 8 #[.agg #[.int .i64 f, .int .i64 b]] w fun e w' => e = .returned (.string (txt f b)) ∧ Below w.heap.size w w' := by
  have d1 : decide (ROk f b) = true := by simp [h]
  obtain ⟨h1, h2, h3, h4, -⟩ := h
  have s1 := tI_size h3 h4
  have s2 := tI_size h1 (by omega)
  have hF := (Fb.start w).alloc [.int .i64 f, .int .i64 b] 24
  have HT := Lib.hid htab
  clear htab
  go_enter Tryd.func8, Tryd.ntmps8
  go_wp2_with fail
  refine (iRangeOk_any f b _).mono ?_; rintro e w1 ⟨rfl, hb1⟩
  replace hF := hF.below hb1
  clear hb1
  have hT1 := Lib.hid (fun x : Cl w1.heap.size w1 => tab_below HT.out (hF.cl x).kp)
  have oc := fun x : Cl _ w1 => (Fb.cl hF x).own; simp only [World.size_alloc, World.size_drew, World.size_setCell, List.mem_cons, List.not_mem_nil, or_false, forall_eq_or_imp, forall_eq, At, and_true, Nat.zero_add, Nat.reduceAdd, List.set_cons_zero, List.set_cons_succ] at oc
  have hI := Lib.hid (fun (n : Int) (g0 : 0 ≤ n) (g1 : n ≤ 255) w (ht : Tab w) => (show Calls Tryd.prog 17 #[.int .i64 n] w fun e w' => e = .returned (.string (tI n)) ∧ Below w.heap.size w w' from Itoa_full n (by omega) (by omega) w ht))
  have s3 : (tI f ++ ⟨#[47]⟩).size ≤ 4 := by rw [ByteArray.size_append]; show (tI f).size + 1 ≤ 4; omega
  have s4 : (tI f ++ ⟨#[47]⟩ ++ tI b).size ≤ 7 := by rw [ByteArray.size_append]; omega
  go_wp2_with fail
  first | refine wp_region_new (by kernel_rfl) (by kernel_rfl) ?_ | refine wp_region_lex ?_
  repeat (any_goals (first | go_big_quiet_step (((go_at_call 17; exact Calls.cl (hI.out _ (by omega) (by omega) _ (hT1.out _))))) | (refine wpQuiet_step (fun K hK => ?_); go_simp; split <;> (rename_i hg; refine hK _ ?_; clear hK K; simp only [hg, decide_true, decide_false]))))
  all_goals (refine wpQuiet_nil ?_; intro x)
  go_wp2
  go_ret
  exact ⟨rfl, (hF.cl x).kp⟩
set_option maxHeartbeats 2000000 in
theorem FnRangeTexts_walk (a0 : Option Addr) (n0 c0 : Nat) (w : World) (h0 : Given w (.slice a0 n0 c0)) (htab : Tab w) :
    Calls Tryd.prog 3 #[.slice a0 n0 c0] w fun e w' => e = .returned (.bool true) ∧ Below w.heap.size w w' := by
  by_cases hn0 : 1048576 < n0
  · have e0 : decide (1048576 < (n0 : Int)) = true := by simp; omega
    go_enter Tryd.func3, Tryd.ntmps3
    go_wp2
    go_ret
    exact ⟨rfl, Below.refl _ _⟩
  have e0 : decide (1048576 < (n0 : Int)) = false := by simp; omega
  have hF := Fb.start w
  have HT := Lib.hid htab
  clear htab
  go_enter Tryd.func3, Tryd.ntmps3
  go_wp2_with fail
  refine (drawCmp_any _ _ h0).mono ?_; rintro e w1 ⟨a, b, c, d, rfl, sA, sC, hb1⟩
  replace hF := ((hF.below hb1).alloc [.int .i64 a, .int .i64 b] 24).alloc [.int .i64 c, .int .i64 d] 24
  clear sA sC hb1 h0
  go_wp2_with fail
  generalize hbe : w1.heap.size = be at *
  simp only [World.size_alloc, hbe] at hF
  obtain ⟨N, hN⟩ : ∃ N, RC a b c d = N := ⟨_, rfl⟩
  have hNN : (N != N) = false := by simp
  have hNe : (N == N) = true := by simp
  refine (iRangeCmp_any _ _ _ _ _).mono ?_; rintro e w2 ⟨rfl, hb2⟩
  replace hF := hF.below hb2
  clear hb2 hbe
  have o := hF.own; simp only [World.size_alloc, World.size_drew, World.size_setCell, List.mem_cons, List.not_mem_nil, or_false, forall_eq_or_imp, forall_eq, At, and_true, Nat.zero_add, Nat.reduceAdd, List.set_cons_zero, List.set_cons_succ] at o
  by_cases h1 : ROk a b
  · have d1 : decide (ROk a b) = true := by simp [h1]
    by_cases h2 : ROk c d
    · have d2 : decide (ROk c d) = true := by simp [h2]
      obtain ⟨Q, hQ⟩ : ∃ Q : Bool, (a == c && b == d) = Q := ⟨_, rfl⟩
      have heql : ∀ w, (binOp .eql 24 (.agg #[.int .i64 a, .int .i64 b]) (.agg #[.int .i64 c, .int .i64 d])).run Tryd.prog w = .ok (.bool Q) w := fun w => by rw [rng_eql, hQ]
      have hQQ : (Q == Q) = true := by simp
      have hq : ((txt a b).toList == (txt c d).toList) = Q := by
        rw [← hQ]
        by_cases e : a = c ∧ b = d
        · obtain ⟨rfl, rfl⟩ := e; simp
        · have n1 : (txt a b).toList ≠ (txt c d).toList := fun g => by
            rw [ByteArray.toList_eq, ByteArray.toList_eq, txt_list, txt_list] at g
            have h3 := cut_at (itoa_no h1.2.2.1) (itoa_no h2.2.2.1) g
            exact e ⟨itoa_inj h1.2.2.1 h2.2.2.1 h3.1, itoa_inj h1.1 h2.1 h3.2⟩
          have n2 : (a == c && b == d) = false := by
            rw [Bool.eq_false_iff]; intro g; simp at g; exact e g
          rw [n2]; simpa using n1
      clear hQ
      have hR := Lib.hid (fun (f b : Int) (g : ROk f b) w (ht : Tab w) => RangeText_any f b g w ht)
      go_wp2_with (first | (go_at_call 6; go_must (refine (sRangeCmp_any _ _ _ _ _).mono ?_); rintro e wx ⟨rfl, hbx⟩; replace hF := hF.below hbx; clear hbx o; have o := hF.own; simp only [World.size_alloc, World.size_drew, World.size_setCell, List.mem_cons, List.not_mem_nil, or_false, forall_eq_or_imp, forall_eq, At, and_true, Nat.zero_add, Nat.reduceAdd, List.set_cons_zero, List.set_cons_succ] at o) | (go_at_call 7; go_must (refine (sRangeOk_any _ _ _).mono ?_); rintro e wx ⟨rfl, hbx⟩; replace hF := hF.below hbx; clear hbx o; have o := hF.own; simp only [World.size_alloc, World.size_drew, World.size_setCell, List.mem_cons, List.not_mem_nil, or_false, forall_eq_or_imp, forall_eq, At, and_true, Nat.zero_add, Nat.reduceAdd, List.set_cons_zero, List.set_cons_succ] at o))
      have hT1 := Lib.hid (fun x : Cl wx.heap.size wx => tab_below HT.out (hF.cl x).kp)
      clear o
      have oc := fun x : Cl _ wx => (Fb.cl hF x).own; simp only [World.size_alloc, World.size_drew, World.size_setCell, List.mem_cons, List.not_mem_nil, or_false, forall_eq_or_imp, forall_eq, At, and_true, Nat.zero_add, Nat.reduceAdd, List.set_cons_zero, List.set_cons_succ] at oc
      first | refine wp_region_new (by kernel_rfl) (by kernel_rfl) ?_ | refine wp_region_lex ?_
      repeat (any_goals (first | go_big_quiet_step (((go_at_call 8; exact Calls.cl (hR.out _ _ (by assumption) _ (hT1.out _))))) | (refine wpQuiet_step (fun K hK => ?_); go_simp; split <;> (rename_i hg; refine hK _ ?_; clear hK K; simp only [hg, decide_true, decide_false]))))
      all_goals (refine wpQuiet_nil ?_; intro x)
      go_wp2
      go_ret
      exact ⟨by simp [hQQ], (hF.cl x).kp⟩
    · have d2 : decide (ROk c d) = false := by simp [h2]
      clear h1 h2
      go_wp2_with (first | (go_at_call 6; go_must (refine (sRangeCmp_any _ _ _ _ _).mono ?_); rintro e wx ⟨rfl, hbx⟩; replace hF := hF.below hbx; clear hbx o; have o := hF.own; simp only [World.size_alloc, World.size_drew, World.size_setCell, List.mem_cons, List.not_mem_nil, or_false, forall_eq_or_imp, forall_eq, At, and_true, Nat.zero_add, Nat.reduceAdd, List.set_cons_zero, List.set_cons_succ] at o) | (go_at_call 7; go_must (refine (sRangeOk_any _ _ _).mono ?_); rintro e wx ⟨rfl, hbx⟩; replace hF := hF.below hbx; clear hbx o; have o := hF.own; simp only [World.size_alloc, World.size_drew, World.size_setCell, List.mem_cons, List.not_mem_nil, or_false, forall_eq_or_imp, forall_eq, At, and_true, Nat.zero_add, Nat.reduceAdd, List.set_cons_zero, List.set_cons_succ] at o))
      go_ret
      exact ⟨rfl, hF.kp⟩
  · have d1 : decide (ROk a b) = false := by simp [h1]
    clear h1
    go_wp2_with (first | (go_at_call 6; go_must (refine (sRangeCmp_any _ _ _ _ _).mono ?_); rintro e wx ⟨rfl, hbx⟩; replace hF := hF.below hbx; clear hbx o; have o := hF.own; simp only [World.size_alloc, World.size_drew, World.size_setCell, List.mem_cons, List.not_mem_nil, or_false, forall_eq_or_imp, forall_eq, At, and_true, Nat.zero_add, Nat.reduceAdd, List.set_cons_zero, List.set_cons_succ] at o) | (go_at_call 7; go_must (refine (sRangeOk_any _ _ _).mono ?_); rintro e wx ⟨rfl, hbx⟩; replace hF := hF.below hbx; clear hbx o; have o := hF.own; simp only [World.size_alloc, World.size_drew, World.size_setCell, List.mem_cons, List.not_mem_nil, or_false, forall_eq_or_imp, forall_eq, At, and_true, Nat.zero_add, Nat.reduceAdd, List.set_cons_zero, List.set_cons_succ] at o))
    go_ret
    exact ⟨rfl, hF.kp⟩
end Go.Proofs.YtbhenfegklgkoaaDoor
