/- Are two routes the same; FnRouteCmp: the walk. FnMarkOrder: the walk. -/
import Derived.Test.YtonojegnbcgnaaaDoorZ16
import Derived.Test.YtonojegnbcgnaaaDoorZ12
import Derived.Test.YtonojegnbcgnaaaDoorZ14
import Derived.Test.YtonojegnbcgnaaaDoorZ15
set_option linter.unusedSimpArgs false
set_option linter.unusedVariables false
namespace Go.Proofs.YtonojegnbcgnaaaDoor
open Go.RowKit

set_option maxHeartbeats 4000000 in
theorem lyRoute_any (f b lk : Int) (pv mv : Value) (P M : List Int) (g c lk2 : Int) (pv2 mv2 : Value) (P2 M2 : List Int) (w : World) (hp : Ints w pv P) (hm : Ints w mv M) (hp2 : Ints w pv2 P2) (hm2 : Ints w mv2 M2) :
    Calls Tryd.prog 14 #[.agg #[.int .i64 f, .int .i64 b, pv, .int .i64 lk, mv], .agg #[.int .i64 g, .int .i64 c, pv2, .int .i64 lk2, mv2]] w fun e w' => e = .returned (.bool (decide (SameR f b lk P M g c lk2 P2 M2))) ∧ Below w.heap.size w w' := by
  obtain ⟨o1, c1, rfl, -⟩ := hp.ex
  obtain ⟨o2, c2, rfl, -⟩ := hm.ex
  obtain ⟨o3, c3, rfl, -⟩ := hp2.ex
  obtain ⟨o4, c4, rfl, -⟩ := hm2.ex
  have hF := ((Fb.start w).alloc [.int .i64 f, .int .i64 b, .slice o1 P.length c1, .int .i64 lk, .slice o2 M.length c2] 27).alloc [.int .i64 g, .int .i64 c, .slice o3 P2.length c3, .int .i64 lk2, .slice o4 M2.length c4] 27
  have hb0 := hF.kp
  simp only [World.size_alloc] at hF
  replace hp := Rows.below hp hb0
  replace hm := Rows.below hm hb0
  replace hp2 := Rows.below hp2 hb0
  replace hm2 := Rows.below hm2 hb0
  clear hb0
  have o := hF.own; simp only [World.size_alloc, World.size_drew, World.size_setCell, List.mem_cons, List.not_mem_nil, or_false, forall_eq_or_imp, forall_eq, At, and_true, Nat.zero_add, Nat.reduceAdd, List.set_cons_zero, List.set_cons_succ] at o
  have tok1 : True := trivial
  by_cases e1 : f = g ∧ b = c
  · have heql : ∀ w, (binOp .eql 24 (.agg #[.int .i64 f, .int .i64 b]) (.agg #[.int .i64 g, .int .i64 c])).run Tryd.prog w = .ok (.bool true) w := fun w => by rw [rng_eql]; simp [e1]
    by_cases e2 : P = P2
    · have L1 := Lib.hid (fun (w : World) (g1 : Ints w (.slice o1 P.length c1) P) (g2 : Ints w (.slice o3 P2.length c3) P2) => (show Calls Tryd.prog 32 #[.slice o1 P.length c1, .slice o3 P2.length c3] w fun e w' => e = .returned (.bool true) ∧ Below w.heap.size w w' from by have := lyInts_any _ _ P P2 w g1 g2; rwa [(decide_eq_true e2)] at this))
      by_cases e3 : lk = lk2
      · have d3 : (lk == lk2) = true := by simp [e3]
        have hr : Hid (decide (SameR f b lk P M g c lk2 P2 M2) = decide (M = M2)) := decide_eq_decide.2 ⟨fun q => q.2.2.2, fun q => ⟨e1, e2, e3, q⟩⟩
        clear e1 e2 e3
        go_enter Tryd.func14, Tryd.ntmps14
        go_wp2_with (first | (go_at_call 32; clear tok1; go_must (refine (L1.out _ hp hp2).mono ?_); rintro e wx ⟨rfl, hbx⟩; (replace hF := hF.below hbx; (try replace hp := Rows.below hp hbx); (try replace hm := Rows.below hm hbx); (try replace hp2 := Rows.below hp2 hbx); (try replace hm2 := Rows.below hm2 hbx); clear hbx o; have o := hF.own; simp only [World.size_alloc, World.size_drew, World.size_setCell, List.mem_cons, List.not_mem_nil, or_false, forall_eq_or_imp, forall_eq, At, and_true, Nat.zero_add, Nat.reduceAdd, List.set_cons_zero, List.set_cons_succ] at o)) | (go_at_call 32; go_must (refine (lyInts_any _ _ M M2 _ hm hm2).mono ?_); rintro e wx ⟨rfl, hbx⟩; (replace hF := hF.below hbx; (try replace hp := Rows.below hp hbx); (try replace hm := Rows.below hm hbx); (try replace hp2 := Rows.below hp2 hbx); (try replace hm2 := Rows.below hm2 hbx); clear hbx o; have o := hF.own; simp only [World.size_alloc, World.size_drew, World.size_setCell, List.mem_cons, List.not_mem_nil, or_false, forall_eq_or_imp, forall_eq, At, and_true, Nat.zero_add, Nat.reduceAdd, List.set_cons_zero, List.set_cons_succ] at o)))
        go_ret
        exact ⟨by rw [hr.out]; rfl, hF.kp⟩
      · have d3 : (lk == lk2) = false := by simp [e3]
        have hr : Hid (decide (SameR f b lk P M g c lk2 P2 M2) = false) := decide_eq_false fun q => e3 q.2.2.1
        clear e1 e2 e3
        go_enter Tryd.func14, Tryd.ntmps14
        go_wp2_with ((go_at_call 32; clear tok1; go_must (refine (L1.out _ hp hp2).mono ?_); rintro e wx ⟨rfl, hbx⟩; (replace hF := hF.below hbx; (try replace hp := Rows.below hp hbx); (try replace hm := Rows.below hm hbx); (try replace hp2 := Rows.below hp2 hbx); (try replace hm2 := Rows.below hm2 hbx); clear hbx o; have o := hF.own; simp only [World.size_alloc, World.size_drew, World.size_setCell, List.mem_cons, List.not_mem_nil, or_false, forall_eq_or_imp, forall_eq, At, and_true, Nat.zero_add, Nat.reduceAdd, List.set_cons_zero, List.set_cons_succ] at o)))
        go_ret
        exact ⟨by rw [hr.out]; rfl, hF.kp⟩
    · have L1 := Lib.hid (fun (w : World) (g1 : Ints w (.slice o1 P.length c1) P) (g2 : Ints w (.slice o3 P2.length c3) P2) => (show Calls Tryd.prog 32 #[.slice o1 P.length c1, .slice o3 P2.length c3] w fun e w' => e = .returned (.bool false) ∧ Below w.heap.size w w' from by have := lyInts_any _ _ P P2 w g1 g2; rwa [(decide_eq_false e2)] at this))
      have hr : Hid (decide (SameR f b lk P M g c lk2 P2 M2) = false) := decide_eq_false fun q => e2 q.2.1
      clear e1 e2
      go_enter Tryd.func14, Tryd.ntmps14
      go_wp2_with ((go_at_call 32; clear tok1; go_must (refine (L1.out _ hp hp2).mono ?_); rintro e wx ⟨rfl, hbx⟩; (replace hF := hF.below hbx; (try replace hp := Rows.below hp hbx); (try replace hm := Rows.below hm hbx); (try replace hp2 := Rows.below hp2 hbx); (try replace hm2 := Rows.below hm2 hbx); clear hbx o; have o := hF.own; simp only [World.size_alloc, World.size_drew, World.size_setCell, List.mem_cons, List.not_mem_nil, or_false, forall_eq_or_imp, forall_eq, At, and_true, Nat.zero_add, Nat.reduceAdd, List.set_cons_zero, List.set_cons_succ] at o)))
      go_ret
      exact ⟨by rw [hr.out]; rfl, hF.kp⟩
  · have heql : ∀ w, (binOp .eql 24 (.agg #[.int .i64 f, .int .i64 b]) (.agg #[.int .i64 g, .int .i64 c])).run Tryd.prog w = .ok (.bool false) w := fun w => by
      rw [rng_eql]
      have : (f == g && b == c) = false := by rw [Bool.eq_false_iff]; intro q; simp at q; exact e1 q
      rw [this]
    have hr : Hid (decide (SameR f b lk P M g c lk2 P2 M2) = false) := decide_eq_false fun q => e1 q.1
    clear e1
    go_enter Tryd.func14, Tryd.ntmps14
    go_wp2_with fail
    go_ret
    exact ⟨by rw [hr.out]; rfl, hF.kp⟩
theorem bdI {N : Int} (h : -1 ≤ N ∧ N ≤ 1) : N = -1 ∨ N = 0 ∨ N = 1 := by omega
end Go.Proofs.YtonojegnbcgnaaaDoor
set_option linter.unusedSimpArgs false
set_option linter.unusedVariables false
namespace Go.Proofs.YtonojegnbcgnaaaDoor
open Go.RowKit

theorem sameR_refl (f b lk : Int) (P M : List Int) : SameR f b lk P M f b lk P M := ⟨⟨rfl, rfl⟩, rfl, rfl, rfl⟩
set_option maxRecDepth 100000 in
set_option maxHeartbeats 8000000 in
theorem FnMarkOrder_walk (a0 a1 : Option Addr) (n0 c0 n1 c1 : Nat) (a : Addr) (w : World) (h0 : Given w (.slice a0 n0 c0)) (h1 : Given w (.slice a1 n1 c1)) (hE : EPath w a) :
    Calls Tryd.prog 3 #[.slice a0 n0 c0, .slice a1 n1 c1] w fun e w' => e = .returned (.bool true) ∧ Below w.heap.size w w' := by
  by_cases hn0 : 1048576 < n0
  · have e0 : decide (1048576 < (n0 : Int)) = true := by simp; omega
    go_enter Tryd.func3, Tryd.ntmps3
    go_wp2
    go_ret
    exact ⟨rfl, Below.refl _ _⟩
  have e0 : decide (1048576 < (n0 : Int)) = false := by simp; omega
  by_cases hn1 : 1048576 < n1
  · have e1 : decide (1048576 < (n1 : Int)) = true := by simp; omega
    go_enter Tryd.func3, Tryd.ntmps3
    go_wp2
    go_ret
    exact ⟨rfl, Below.refl _ _⟩
  have e1 : decide (1048576 < (n1 : Int)) = false := by simp; omega
  clear h1
  have hF := Fb.start w
  have hn9 : Bts (1 + (n1 : Int) % 9) 1 9 := by unfold Bts; omega
  have hw9 : IntKind.i64.wrap (1 + (n1 : Int) % 9) = 1 + (n1 : Int) % 9 := IntWalk.i64_in _ (by unfold Bts at hn9; omega)
  have HN := Lib.hid hn9
  clear hn9
  go_enter Tryd.func3, Tryd.ntmps3
  go_wp2_with fail
  refine (drawRouteMark_any _ _ h0).mono ?_; rintro e w1 ⟨f, b, lk, m, pv, mv, P, M, rfl, hi1, hj1, hP4, hM9, -, -, hb1⟩
  have hp1 := hi1.1
  have hm1 := hj1.1
  obtain ⟨o1, k1, rfl, -⟩ := hp1.ex
  obtain ⟨o2, k2, rfl, -⟩ := hm1.ex
  replace hF := (hF.below hb1).alloc [.int .i64 f, .int .i64 b, .slice o1 P.length k1, .int .i64 lk, .slice o2 M.length k2] 27
  replace hE := hE.below hb1
  have hb2 := (Below.refl w1.heap.size w1).alloc (Nat.le_refl _) (.cells #[.int .i64 f, .int .i64 b, .slice o1 P.length k1, .int .i64 lk, .slice o2 M.length k2] 27)
  (try replace hp1 := Rows.below hp1 hb2)
  (try replace hm1 := Rows.below hm1 hb2)
  (try replace hi1 := It.below hi1 hb2)
  (try replace hj1 := It.below hj1 hb2)
  (try replace hp2 := Rows.below hp2 hb2)
  (try replace hm2 := Rows.below hm2 hb2)
  (try replace hp3 := Rows.below hp3 hb2)
  (try replace hm3 := Rows.below hm3 hb2)
  (try replace hp4 := Rows.below hp4 hb2)
  (try replace hm4 := Rows.below hm4 hb2)
  (try replace hp5 := Rows.below hp5 hb2)
  (try replace hm5 := Rows.below hm5 hb2)
  (try replace hp6 := Rows.below hp6 hb2)
  (try replace hm6 := Rows.below hm6 hb2)
  (try replace hE := hE.below hb2)
  clear hb1 hb2 h0
  obtain ⟨s1, hs1⟩ : ∃ n, w1.heap.size = n := ⟨_, rfl⟩
  rw [hs1] at hF
  have o := hF.own; simp only [World.size_alloc, World.size_drew, World.size_setCell, List.mem_cons, List.not_mem_nil, or_false, forall_eq_or_imp, forall_eq, At, and_true, Nat.zero_add, Nat.reduceAdd, List.set_cons_zero, List.set_cons_succ] at o
  by_cases hok : RtOk f b P lk M ∧ Bts m 1 9
  · have HK := Lib.hid hok
    have HX : Hid (RtOk f b P lk (mki m M)) := ⟨hok.1.1, hok.1.2.1, hok.1.2.2.1, hok.1.2.2.2.1, mok_mki hok.1.2.2.2.2 hok.2⟩
    have HU : Hid (RtOk f b P lk (mki (1 + (n1 : Int) % 9) M)) := ⟨hok.1.1, hok.1.2.1, hok.1.2.2.1, hok.1.2.2.2.1, mok_mki hok.1.2.2.2.2 HN.out⟩
    clear hok
    go_wp2_with fail
    refine (sRouteMark_ok f b lk m _ _ P M _ hi1 hj1 HK.out.1 HK.out.2).mono ?_; rintro e wx ⟨p2, m2, rfl, hp2, hm2, hbx⟩
    obtain ⟨op2, kp2, rfl, -⟩ := hp2.ex
    obtain ⟨om2, km2, rfl, -⟩ := hm2.ex
    (try replace hp1 := Rows.below hp1 hbx)
    (try replace hm1 := Rows.below hm1 hbx)
    (try replace hi1 := It.below hi1 hbx)
    (try replace hj1 := It.below hj1 hbx)
    (try replace hp2 := Rows.below hp2 hbx)
    (try replace hm2 := Rows.below hm2 hbx)
    (try replace hp3 := Rows.below hp3 hbx)
    (try replace hm3 := Rows.below hm3 hbx)
    (try replace hp4 := Rows.below hp4 hbx)
    (try replace hm4 := Rows.below hm4 hbx)
    (try replace hp5 := Rows.below hp5 hbx)
    (try replace hm5 := Rows.below hm5 hbx)
    (try replace hp6 := Rows.below hp6 hbx)
    (try replace hm6 := Rows.below hm6 hbx)
    (try replace hE := hE.below hbx)
    have hbb := (Below.refl wx.heap.size wx).alloc (Nat.le_refl _) (.cells #[.int .i64 f, .int .i64 b, .slice op2 P.length kp2, .int .i64 lk, .slice om2 (mki m M).length km2] 27)
    replace hF := (hF.below hbx).alloc [.int .i64 f, .int .i64 b, .slice op2 P.length kp2, .int .i64 lk, .slice om2 (mki m M).length km2] 27
    (try replace hp1 := Rows.below hp1 hbb)
    (try replace hm1 := Rows.below hm1 hbb)
    (try replace hi1 := It.below hi1 hbb)
    (try replace hj1 := It.below hj1 hbb)
    (try replace hp2 := Rows.below hp2 hbb)
    (try replace hm2 := Rows.below hm2 hbb)
    (try replace hp3 := Rows.below hp3 hbb)
    (try replace hm3 := Rows.below hm3 hbb)
    (try replace hp4 := Rows.below hp4 hbb)
    (try replace hm4 := Rows.below hm4 hbb)
    (try replace hp5 := Rows.below hp5 hbb)
    (try replace hm5 := Rows.below hm5 hbb)
    (try replace hp6 := Rows.below hp6 hbb)
    (try replace hm6 := Rows.below hm6 hbb)
    (try replace hE := hE.below hbb)
    obtain ⟨s2, hs2⟩ : ∃ n, wx.heap.size = n := ⟨_, rfl⟩
    rw [hs2] at hF
    clear hbx hbb o
    have o := hF.own; simp only [World.size_alloc, World.size_drew, World.size_setCell, List.mem_cons, List.not_mem_nil, or_false, forall_eq_or_imp, forall_eq, At, and_true, Nat.zero_add, Nat.reduceAdd, List.set_cons_zero, List.set_cons_succ] at o
    clear hi1 hj1
    go_wp2_with fail
    refine (iRouteMark_ok f b lk m _ _ P M a _ hp1 hm1 hE HK.out.1 HK.out.2).mono ?_; rintro e wx ⟨p3, m3, rfl, hp3, hm3, hbx⟩
    obtain ⟨op3, kp3, rfl, -⟩ := hp3.ex
    obtain ⟨om3, km3, rfl, -⟩ := hm3.ex
    (try replace hp1 := Rows.below hp1 hbx)
    (try replace hm1 := Rows.below hm1 hbx)
    (try replace hi1 := It.below hi1 hbx)
    (try replace hj1 := It.below hj1 hbx)
    (try replace hp2 := Rows.below hp2 hbx)
    (try replace hm2 := Rows.below hm2 hbx)
    (try replace hp3 := Rows.below hp3 hbx)
    (try replace hm3 := Rows.below hm3 hbx)
    (try replace hp4 := Rows.below hp4 hbx)
    (try replace hm4 := Rows.below hm4 hbx)
    (try replace hp5 := Rows.below hp5 hbx)
    (try replace hm5 := Rows.below hm5 hbx)
    (try replace hp6 := Rows.below hp6 hbx)
    (try replace hm6 := Rows.below hm6 hbx)
    (try replace hE := hE.below hbx)
    have hbb := (Below.refl wx.heap.size wx).alloc (Nat.le_refl _) (.cells #[.int .i64 f, .int .i64 b, .slice op3 P.length kp3, .int .i64 lk, .slice om3 (mki m M).length km3] 27)
    replace hF := (hF.below hbx).alloc [.int .i64 f, .int .i64 b, .slice op3 P.length kp3, .int .i64 lk, .slice om3 (mki m M).length km3] 27
    (try replace hp1 := Rows.below hp1 hbb)
    (try replace hm1 := Rows.below hm1 hbb)
    (try replace hi1 := It.below hi1 hbb)
    (try replace hj1 := It.below hj1 hbb)
    (try replace hp2 := Rows.below hp2 hbb)
    (try replace hm2 := Rows.below hm2 hbb)
    (try replace hp3 := Rows.below hp3 hbb)
    (try replace hm3 := Rows.below hm3 hbb)
    (try replace hp4 := Rows.below hp4 hbb)
    (try replace hm4 := Rows.below hm4 hbb)
    (try replace hp5 := Rows.below hp5 hbb)
    (try replace hm5 := Rows.below hm5 hbb)
    (try replace hp6 := Rows.below hp6 hbb)
    (try replace hm6 := Rows.below hm6 hbb)
    (try replace hE := hE.below hbb)
    obtain ⟨s3, hs3⟩ : ∃ n, wx.heap.size = n := ⟨_, rfl⟩
    rw [hs3] at hF
    clear hbx hbb o
    have o := hF.own; simp only [World.size_alloc, World.size_drew, World.size_setCell, List.mem_cons, List.not_mem_nil, or_false, forall_eq_or_imp, forall_eq, At, and_true, Nat.zero_add, Nat.reduceAdd, List.set_cons_zero, List.set_cons_succ] at o
    have HS : Hid (decide (SameR f b lk P (mki m M) f b lk P (mki m M)) = true) := decide_eq_true (sameR_refl ..)
    go_upto_region 8 with ((go_at_call 14; go_must (refine (lyRoute_any f b lk _ _ P (mki m M) f b lk _ _ P (mki m M) _ hp3 hm3 hp2 hm2).mono ?_); rintro e wx ⟨rfl, hbx⟩; rw [HS.out]; replace hF := hF.below hbx; (try replace hp1 := Rows.below hp1 hbx); (try replace hm1 := Rows.below hm1 hbx); (try replace hp3 := Rows.below hp3 hbx); (try replace hm3 := Rows.below hm3 hbx); (try replace hE := hE.below hbx); clear hbx o; have o := hF.own; simp only [World.size_alloc, World.size_drew, World.size_setCell, List.mem_cons, List.not_mem_nil, or_false, forall_eq_or_imp, forall_eq, At, and_true, Nat.zero_add, Nat.reduceAdd, List.set_cons_zero, List.set_cons_succ] at o))
    clear hp2 hm2 HS
    go_wp2_with fail
    refine (iRouteMark_ok f b lk (1 + (n1 : Int) % 9) _ _ P (mki m M) a _ hp3 hm3 hE HX.out HN.out).mono ?_; rintro e wx ⟨p4, m4, rfl, hp4, hm4, hbx⟩
    obtain ⟨op4, kp4, rfl, -⟩ := hp4.ex
    obtain ⟨om4, km4, rfl, -⟩ := hm4.ex
    (try replace hp1 := Rows.below hp1 hbx)
    (try replace hm1 := Rows.below hm1 hbx)
    (try replace hi1 := It.below hi1 hbx)
    (try replace hj1 := It.below hj1 hbx)
    (try replace hp2 := Rows.below hp2 hbx)
    (try replace hm2 := Rows.below hm2 hbx)
    (try replace hp3 := Rows.below hp3 hbx)
    (try replace hm3 := Rows.below hm3 hbx)
    (try replace hp4 := Rows.below hp4 hbx)
    (try replace hm4 := Rows.below hm4 hbx)
    (try replace hp5 := Rows.below hp5 hbx)
    (try replace hm5 := Rows.below hm5 hbx)
    (try replace hp6 := Rows.below hp6 hbx)
    (try replace hm6 := Rows.below hm6 hbx)
    (try replace hE := hE.below hbx)
    have hbb := (Below.refl wx.heap.size wx).alloc (Nat.le_refl _) (.cells #[.int .i64 f, .int .i64 b, .slice op4 P.length kp4, .int .i64 lk, .slice om4 (mki (1 + (n1 : Int) % 9) (mki m M)).length km4] 27)
    replace hF := (hF.below hbx).alloc [.int .i64 f, .int .i64 b, .slice op4 P.length kp4, .int .i64 lk, .slice om4 (mki (1 + (n1 : Int) % 9) (mki m M)).length km4] 27
    (try replace hp1 := Rows.below hp1 hbb)
    (try replace hm1 := Rows.below hm1 hbb)
    (try replace hi1 := It.below hi1 hbb)
    (try replace hj1 := It.below hj1 hbb)
    (try replace hp2 := Rows.below hp2 hbb)
    (try replace hm2 := Rows.below hm2 hbb)
    (try replace hp3 := Rows.below hp3 hbb)
    (try replace hm3 := Rows.below hm3 hbb)
    (try replace hp4 := Rows.below hp4 hbb)
    (try replace hm4 := Rows.below hm4 hbb)
    (try replace hp5 := Rows.below hp5 hbb)
    (try replace hm5 := Rows.below hm5 hbb)
    (try replace hp6 := Rows.below hp6 hbb)
    (try replace hm6 := Rows.below hm6 hbb)
    (try replace hE := hE.below hbb)
    obtain ⟨s4, hs4⟩ : ∃ n, wx.heap.size = n := ⟨_, rfl⟩
    rw [hs4] at hF
    clear hbx hbb o
    have o := hF.own; simp only [World.size_alloc, World.size_drew, World.size_setCell, List.mem_cons, List.not_mem_nil, or_false, forall_eq_or_imp, forall_eq, At, and_true, Nat.zero_add, Nat.reduceAdd, List.set_cons_zero, List.set_cons_succ] at o
    go_wp2_with fail
    refine (iRouteMark_ok f b lk (1 + (n1 : Int) % 9) _ _ P M a _ hp1 hm1 hE HK.out.1 HN.out).mono ?_; rintro e wx ⟨p5, m5, rfl, hp5, hm5, hbx⟩
    obtain ⟨op5, kp5, rfl, -⟩ := hp5.ex
    obtain ⟨om5, km5, rfl, -⟩ := hm5.ex
    (try replace hp1 := Rows.below hp1 hbx)
    (try replace hm1 := Rows.below hm1 hbx)
    (try replace hi1 := It.below hi1 hbx)
    (try replace hj1 := It.below hj1 hbx)
    (try replace hp2 := Rows.below hp2 hbx)
    (try replace hm2 := Rows.below hm2 hbx)
    (try replace hp3 := Rows.below hp3 hbx)
    (try replace hm3 := Rows.below hm3 hbx)
    (try replace hp4 := Rows.below hp4 hbx)
    (try replace hm4 := Rows.below hm4 hbx)
    (try replace hp5 := Rows.below hp5 hbx)
    (try replace hm5 := Rows.below hm5 hbx)
    (try replace hp6 := Rows.below hp6 hbx)
    (try replace hm6 := Rows.below hm6 hbx)
    (try replace hE := hE.below hbx)
    have hbb := (Below.refl wx.heap.size wx).alloc (Nat.le_refl _) (.cells #[.int .i64 f, .int .i64 b, .slice op5 P.length kp5, .int .i64 lk, .slice om5 (mki (1 + (n1 : Int) % 9) M).length km5] 27)
    replace hF := (hF.below hbx).alloc [.int .i64 f, .int .i64 b, .slice op5 P.length kp5, .int .i64 lk, .slice om5 (mki (1 + (n1 : Int) % 9) M).length km5] 27
    (try replace hp1 := Rows.below hp1 hbb)
    (try replace hm1 := Rows.below hm1 hbb)
    (try replace hi1 := It.below hi1 hbb)
    (try replace hj1 := It.below hj1 hbb)
    (try replace hp2 := Rows.below hp2 hbb)
    (try replace hm2 := Rows.below hm2 hbb)
    (try replace hp3 := Rows.below hp3 hbb)
    (try replace hm3 := Rows.below hm3 hbb)
    (try replace hp4 := Rows.below hp4 hbb)
    (try replace hm4 := Rows.below hm4 hbb)
    (try replace hp5 := Rows.below hp5 hbb)
    (try replace hm5 := Rows.below hm5 hbb)
    (try replace hp6 := Rows.below hp6 hbb)
    (try replace hm6 := Rows.below hm6 hbb)
    (try replace hE := hE.below hbb)
    obtain ⟨s5, hs5⟩ : ∃ n, wx.heap.size = n := ⟨_, rfl⟩
    rw [hs5] at hF
    clear hbx hbb o
    have o := hF.own; simp only [World.size_alloc, World.size_drew, World.size_setCell, List.mem_cons, List.not_mem_nil, or_false, forall_eq_or_imp, forall_eq, At, and_true, Nat.zero_add, Nat.reduceAdd, List.set_cons_zero, List.set_cons_succ] at o
    go_wp2_with fail
    refine (iRouteMark_ok f b lk m _ _ P (mki (1 + (n1 : Int) % 9) M) a _ hp5 hm5 hE HU.out HK.out.2).mono ?_; rintro e wx ⟨p6, m6, rfl, hp6, hm6, hbx⟩
    obtain ⟨op6, kp6, rfl, -⟩ := hp6.ex
    obtain ⟨om6, km6, rfl, -⟩ := hm6.ex
    (try replace hp1 := Rows.below hp1 hbx)
    (try replace hm1 := Rows.below hm1 hbx)
    (try replace hi1 := It.below hi1 hbx)
    (try replace hj1 := It.below hj1 hbx)
    (try replace hp2 := Rows.below hp2 hbx)
    (try replace hm2 := Rows.below hm2 hbx)
    (try replace hp3 := Rows.below hp3 hbx)
    (try replace hm3 := Rows.below hm3 hbx)
    (try replace hp4 := Rows.below hp4 hbx)
    (try replace hm4 := Rows.below hm4 hbx)
    (try replace hp5 := Rows.below hp5 hbx)
    (try replace hm5 := Rows.below hm5 hbx)
    (try replace hp6 := Rows.below hp6 hbx)
    (try replace hm6 := Rows.below hm6 hbx)
    (try replace hE := hE.below hbx)
    have hbb := (Below.refl wx.heap.size wx).alloc (Nat.le_refl _) (.cells #[.int .i64 f, .int .i64 b, .slice op6 P.length kp6, .int .i64 lk, .slice om6 (mki m (mki (1 + (n1 : Int) % 9) M)).length km6] 27)
    replace hF := (hF.below hbx).alloc [.int .i64 f, .int .i64 b, .slice op6 P.length kp6, .int .i64 lk, .slice om6 (mki m (mki (1 + (n1 : Int) % 9) M)).length km6] 27
    (try replace hp1 := Rows.below hp1 hbb)
    (try replace hm1 := Rows.below hm1 hbb)
    (try replace hi1 := It.below hi1 hbb)
    (try replace hj1 := It.below hj1 hbb)
    (try replace hp2 := Rows.below hp2 hbb)
    (try replace hm2 := Rows.below hm2 hbb)
    (try replace hp3 := Rows.below hp3 hbb)
    (try replace hm3 := Rows.below hm3 hbb)
    (try replace hp4 := Rows.below hp4 hbb)
    (try replace hm4 := Rows.below hm4 hbb)
    (try replace hp5 := Rows.below hp5 hbb)
    (try replace hm5 := Rows.below hm5 hbb)
    (try replace hp6 := Rows.below hp6 hbb)
    (try replace hm6 := Rows.below hm6 hbb)
    (try replace hE := hE.below hbb)
    obtain ⟨s6, hs6⟩ : ∃ n, wx.heap.size = n := ⟨_, rfl⟩
    rw [hs6] at hF
    clear hbx hbb o
    have o := hF.own; simp only [World.size_alloc, World.size_drew, World.size_setCell, List.mem_cons, List.not_mem_nil, or_false, forall_eq_or_imp, forall_eq, At, and_true, Nat.zero_add, Nat.reduceAdd, List.set_cons_zero, List.set_cons_succ] at o
    have HS : Hid (decide (SameR f b lk P (mki (1 + (n1 : Int) % 9) (mki m M)) f b lk P (mki m (mki (1 + (n1 : Int) % 9) M))) = true) := decide_eq_true ⟨⟨rfl, rfl⟩, rfl, rfl, mki_comm (mok_pair HK.out.1.2.2.2.2)⟩
    go_wp2_with ((go_at_call 14; go_must (refine (lyRoute_any f b lk _ _ P (mki (1 + (n1 : Int) % 9) (mki m M)) f b lk _ _ P (mki m (mki (1 + (n1 : Int) % 9) M)) _ hp4 hm4 hp6 hm6).mono ?_); rintro e wx ⟨rfl, hbx⟩; rw [HS.out]; replace hF := hF.below hbx; (try replace hp1 := Rows.below hp1 hbx); (try replace hm1 := Rows.below hm1 hbx); (try replace hp3 := Rows.below hp3 hbx); (try replace hm3 := Rows.below hm3 hbx); (try replace hE := hE.below hbx); clear hbx o; have o := hF.own; simp only [World.size_alloc, World.size_drew, World.size_setCell, List.mem_cons, List.not_mem_nil, or_false, forall_eq_or_imp, forall_eq, At, and_true, Nat.zero_add, Nat.reduceAdd, List.set_cons_zero, List.set_cons_succ] at o))
    go_ret
    exact ⟨rfl, hF.kp⟩
  · have HK := Lib.hid hok
    clear hok
    go_wp2_with fail
    refine (sRouteMark_no f b lk m _ _ P M _ hp1 hm1 HK.out).mono ?_; rintro e w2 ⟨rfl, hb2⟩
    replace hp1 := Rows.below hp1 hb2
    replace hm1 := Rows.below hm1 hb2
    replace hE := hE.below hb2
    have hbb := (Below.refl w2.heap.size w2).alloc (Nat.le_refl _) (.cells #[.int .i64 0, .int .i64 0, .slice none 0 0, .int .i64 0, .slice none 0 0] 27)
    replace hF := (hF.below hb2).alloc [.int .i64 0, .int .i64 0, .slice none 0 0, .int .i64 0, .slice none 0 0] 27
    replace hp1 := Rows.below hp1 hbb
    replace hm1 := Rows.below hm1 hbb
    replace hE := hE.below hbb
    obtain ⟨s2, hs2⟩ : ∃ n, w2.heap.size = n := ⟨_, rfl⟩
    rw [hs2] at hF
    clear hb2 hbb o hi1 hj1
    have o := hF.own; simp only [World.size_alloc, World.size_drew, World.size_setCell, List.mem_cons, List.not_mem_nil, or_false, forall_eq_or_imp, forall_eq, At, and_true, Nat.zero_add, Nat.reduceAdd, List.set_cons_zero, List.set_cons_succ] at o
    go_wp2_with fail
    refine (iRouteMark_no f b lk m _ _ P M a _ hp1 hm1 hE HK.out).mono ?_; rintro e w3 ⟨rfl, hb3⟩
    replace hF := (hF.below hb3).alloc [.int .i64 0, .int .i64 0, .slice none 0 0, .int .i64 0, .slice none 0 0] 27
    obtain ⟨s3, hs3⟩ : ∃ n, w3.heap.size = n := ⟨_, rfl⟩
    rw [hs3] at hF
    clear hb3 o hp1 hm1 hE
    have o := hF.own; simp only [World.size_alloc, World.size_drew, World.size_setCell, List.mem_cons, List.not_mem_nil, or_false, forall_eq_or_imp, forall_eq, At, and_true, Nat.zero_add, Nat.reduceAdd, List.set_cons_zero, List.set_cons_succ] at o
    have HS : Hid (decide (SameR 0 0 0 [] [] 0 0 0 [] []) = true) := decide_eq_true (sameR_refl ..)
    have hz : ∀ w : World, Ints w (.slice none 0 0) [] := fun w => Rows.nil w none 0 (by omega) 1 encI
    go_wp2_with ((go_at_call 14; go_must (refine (lyRoute_any 0 0 0 _ _ [] [] 0 0 0 _ _ [] [] _ (hz _) (hz _) (hz _) (hz _)).mono ?_); rintro e wx ⟨rfl, hbx⟩; rw [HS.out]; replace hF := hF.below hbx; (try replace hp1 := Rows.below hp1 hbx); (try replace hm1 := Rows.below hm1 hbx); (try replace hp3 := Rows.below hp3 hbx); (try replace hm3 := Rows.below hm3 hbx); (try replace hE := hE.below hbx); clear hbx o; have o := hF.own; simp only [World.size_alloc, World.size_drew, World.size_setCell, List.mem_cons, List.not_mem_nil, or_false, forall_eq_or_imp, forall_eq, At, and_true, Nat.zero_add, Nat.reduceAdd, List.set_cons_zero, List.set_cons_succ] at o))
    go_ret
    exact ⟨rfl, hF.kp⟩
end Go.Proofs.YtonojegnbcgnaaaDoor
