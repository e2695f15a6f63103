/- The draw of the law on counting, and both counts. Are two routes the same; FnRouteCmp: the walk. Two changes that read the same are the same. -/
import Derived.Test.YtjkfnjjkjhggfaaZ18
import Derived.Test.YtjkfnjjkjhggfaaZ3
import Derived.Test.YtjkfnjjkjhggfaaZ13
import Derived.Test.YtjkfnjjkjhggfaaZ16
set_option linter.unusedSimpArgs false
set_option linter.unusedVariables false
namespace Go.Proofs.Ytjkfnjjkjhggfaa
open Go.RowKit

theorem iDeltaMany_any (a1 a2 : Option Addr) (N1 c1 N2 c2 : Nat) (w : World) (h : N1 + N2 ≤ 1000000) :
    Calls Try.prog 14 #[.agg #[.slice a1 N1 c1, .slice a2 N2 c2]] w fun e w' => e = .returned (.int .i64 ((N1 + N2 : Nat) : Int)) ∧ Below w.heap.size w w' := by
  have hF := (Fb.start w).alloc [.slice a1 N1 c1, .slice a2 N2 c2] 32
  have hw : IntKind.i64.wrap ((N1 : Int) + (N2 : Int)) = (N1 : Int) + (N2 : Int) := IntWalk.i64_in _ (by omega)
  have o := hF.own; simp only [World.size_alloc, World.size_drew, World.size_setCell, List.mem_cons, List.not_mem_nil, or_false, forall_eq_or_imp, forall_eq, At, and_true, Nat.zero_add, Nat.reduceAdd, List.set_cons_zero, List.set_cons_succ] at o
  go_enter Try.func14, Try.ntmps14
  go_wp2
  go_ret
  exact ⟨by simp, hF.kp⟩
theorem sDeltaMany_any (a1 a2 : Option Addr) (N1 c1 N2 c2 : Nat) (w : World) (h : N1 + N2 ≤ 1000000) :
    Calls Try.prog 15 #[.agg #[.slice a1 N1 c1, .slice a2 N2 c2]] w fun e w' => e = .returned (.int .i64 ((N1 + N2 : Nat) : Int)) ∧ Below w.heap.size w w' := by
  have hF := (Fb.start w).alloc [.slice a1 N1 c1, .slice a2 N2 c2] 32
  have hw : IntKind.i64.wrap ((N1 : Int) + (N2 : Int)) = (N1 : Int) + (N2 : Int) := IntWalk.i64_in _ (by omega)
  have o := hF.own; simp only [World.size_alloc, World.size_drew, World.size_setCell, List.mem_cons, List.not_mem_nil, or_false, forall_eq_or_imp, forall_eq, At, and_true, Nat.zero_add, Nat.reduceAdd, List.set_cons_zero, List.set_cons_succ] at o
  go_enter Try.func15, Try.ntmps15
  go_wp2
  go_ret
  exact ⟨by simp, hF.kp⟩
set_option maxRecDepth 100000 in
set_option maxHeartbeats 4000000 in
theorem drawDeltaMany_any (v : Value) (w : World) (h : Given w v) :
    Calls Try.prog 13 #[v] w fun e w' => ∃ (s1 s2 : Value) (D : List Rg) (L : List Rt), e = .returned (.agg #[s1, s2]) ∧ Own 62 w' w.heap.size s1 2 encRg D ∧ GOwn shRi 64 w' w.heap.size s2 L ∧ (D.length ≤ 20 ∧ L.length ≤ 20) ∧ (∀ s ∈ L, SmRt s) ∧ Below w.heap.size w w' := by
  have hF := (Fr.start (w.heap.size + 1) w).alloc' [.slice none 0 0, .slice none 0 0] 32 (by omega)
  have hG := h.alloc (.cells #[.slice none 0 0, .slice none 0 0] 32)
  obtain ⟨n0, hn0⟩ : ∃ n, w.heap.size = n := ⟨_, rfl⟩
  have HN := Lib.hid hn0
  rw [hn0] at hF
  go_enter Try.func13, Try.ntmps13
  go_wp2_with fail
  refine (open_any v _ hG).mono ?_; rintro e w1 ⟨rfl, hR, hb1⟩
  have hs1 := hb1.size
  simp only [World.size_alloc, hn0] at hR hs1
  replace hF := hF.below hb1
  clear hG hb1
  simp only [World.size_alloc, hn0]
  go_wp2_with fail
  refine (l92Change_any _ _ _ hR (by omega)).mono ?_; rintro e w2 ⟨v1, v2, L1, L2, rfl, hO1, hO2, ⟨hl1, hl2⟩, ⟨-, hs2⟩, hK2⟩
  replace hF := hF.call hK2
  have hz2 := hK2.size
  clear hR hK2
  obtain ⟨a1, c1, rfl⟩ := hO1.sl
  obtain ⟨a2, c2, rfl⟩ := hO2.sl
  go_wp2_with fail
  refine (DeltaOf_any _ _ L1 L2 _ hO1.gls hO2.gls (by omega) (by omega) hs2).mono ?_; rintro e w3 ⟨s1, s2, D, L, rfl, hD, hT, hl, hs, hb3⟩
  replace hF := hF.below hb3
  have hz3 := hb3.size
  clear hb3 hs2 hO1 hO2
  obtain ⟨a3, c3, rfl⟩ := hD.sl
  obtain ⟨a4, c4, rfl⟩ := hT.sl
  have o := hF.own; simp only [World.size_alloc, World.size_drew, World.size_setCell, List.mem_cons, List.not_mem_nil, or_false, forall_eq_or_imp, forall_eq, At, and_true, Nat.zero_add, Nat.reduceAdd, List.set_cons_zero, List.set_cons_succ] at o
  go_wp2_with fail
  replace hF := (hF.set 0 (.slice a3 D.length c3) (by simp) (by simp)).set 1 (.slice a4 L.length c4) (by simp) (by simp)
  replace hD := (hD.set (a := ⟨n0, 0, none⟩) (by dsimp only; omega) (.slice a3 D.length c3)).set (a := ⟨n0, 1, none⟩) (by dsimp only; omega) (.slice a4 L.length c4)
  replace hT := (hT.set (a := ⟨n0, 0, none⟩) (by dsimp only; omega) (.slice a3 D.length c3)).set (a := ⟨n0, 1, none⟩) (by dsimp only; omega) (.slice a4 L.length c4)
  generalize ((w3.setCell ⟨n0, 0, none⟩ (.slice a3 D.length c3)).setCell ⟨n0, 1, none⟩ (.slice a4 L.length c4)) = wz at hF hD hT ⊢
  clear o
  have o := hF.own; simp only [World.size_alloc, World.size_drew, World.size_setCell, List.mem_cons, List.not_mem_nil, or_false, forall_eq_or_imp, forall_eq, At, and_true, Nat.zero_add, Nat.reduceAdd, List.set_cons_zero, List.set_cons_succ] at o
  refine bodyPost_ret (v := .agg #[.slice a3 D.length c3, .slice a4 L.length c4]) (by simp [results, Try.results13, go_sem, o]) rfl ?_
  exact ⟨_, _, D, L, rfl, hD.base (by omega), hT.base (by omega), hl, hs, hF.kp.below (by omega) (Nat.le_refl _)⟩
end Go.Proofs.Ytjkfnjjkjhggfaa
set_option linter.unusedSimpArgs false
set_option linter.unusedVariables false
namespace Go.Proofs.Ytjkfnjjkjhggfaa
open Go.RowKit

set_option maxHeartbeats 4000000 in
theorem lyRoute_any (f b lk : Int) (pv mv : Value) (P M : List Int) (g c lk2 : Int) (pv2 mv2 : Value) (P2 M2 : List Int) (w : World) (hp : Ints w pv P) (hm : Ints w mv M) (hp2 : Ints w pv2 P2) (hm2 : Ints w mv2 M2) :
    Calls Try.prog 48 #[.agg #[.int .i64 f, .int .i64 b, pv, .int .i64 lk, mv], .agg #[.int .i64 g, .int .i64 c, pv2, .int .i64 lk2, mv2]] w fun e w' => e = .returned (.bool (decide (SameR f b lk P M g c lk2 P2 M2))) ∧ Below w.heap.size w w' := by
  obtain ⟨o1, c1, rfl, -⟩ := hp.ex
  obtain ⟨o2, c2, rfl, -⟩ := hm.ex
  obtain ⟨o3, c3, rfl, -⟩ := hp2.ex
  obtain ⟨o4, c4, rfl, -⟩ := hm2.ex
  have hF := ((Fb.start w).alloc [.int .i64 f, .int .i64 b, .slice o1 P.length c1, .int .i64 lk, .slice o2 M.length c2] 64).alloc [.int .i64 g, .int .i64 c, .slice o3 P2.length c3, .int .i64 lk2, .slice o4 M2.length c4] 64
  have hb0 := hF.kp
  simp only [World.size_alloc] at hF
  replace hp := Rows.below hp hb0
  replace hm := Rows.below hm hb0
  replace hp2 := Rows.below hp2 hb0
  replace hm2 := Rows.below hm2 hb0
  clear hb0
  have o := hF.own; simp only [World.size_alloc, World.size_drew, World.size_setCell, List.mem_cons, List.not_mem_nil, or_false, forall_eq_or_imp, forall_eq, At, and_true, Nat.zero_add, Nat.reduceAdd, List.set_cons_zero, List.set_cons_succ] at o
  have tok1 : True := trivial
  by_cases e1 : f = g ∧ b = c
  · have heql : ∀ w, (binOp .eql 62 (.agg #[.int .i64 f, .int .i64 b]) (.agg #[.int .i64 g, .int .i64 c])).run Try.prog w = .ok (.bool true) w := fun w => by rw [rng_eql]; simp [e1]
    by_cases e2 : P = P2
    · have L1 := Lib.hid (fun (w : World) (g1 : Ints w (.slice o1 P.length c1) P) (g2 : Ints w (.slice o3 P2.length c3) P2) => (show Calls Try.prog 57 #[.slice o1 P.length c1, .slice o3 P2.length c3] w fun e w' => e = .returned (.bool true) ∧ Below w.heap.size w w' from by have := lyInts_any _ _ P P2 w g1 g2; rwa [(decide_eq_true e2)] at this))
      by_cases e3 : lk = lk2
      · have d3 : (lk == lk2) = true := by simp [e3]
        have hr : Hid (decide (SameR f b lk P M g c lk2 P2 M2) = decide (M = M2)) := decide_eq_decide.2 ⟨fun q => q.2.2.2, fun q => ⟨e1, e2, e3, q⟩⟩
        clear e1 e2 e3
        go_enter Try.func48, Try.ntmps48
        go_wp2_with (first | (go_at_call 57; clear tok1; go_must (refine (L1.out _ hp hp2).mono ?_); rintro e wx ⟨rfl, hbx⟩; (replace hF := hF.below hbx; (try replace hp := Rows.below hp hbx); (try replace hm := Rows.below hm hbx); (try replace hp2 := Rows.below hp2 hbx); (try replace hm2 := Rows.below hm2 hbx); clear hbx o; have o := hF.own; simp only [World.size_alloc, World.size_drew, World.size_setCell, List.mem_cons, List.not_mem_nil, or_false, forall_eq_or_imp, forall_eq, At, and_true, Nat.zero_add, Nat.reduceAdd, List.set_cons_zero, List.set_cons_succ] at o)) | (go_at_call 57; go_must (refine (lyInts_any _ _ M M2 _ hm hm2).mono ?_); rintro e wx ⟨rfl, hbx⟩; (replace hF := hF.below hbx; (try replace hp := Rows.below hp hbx); (try replace hm := Rows.below hm hbx); (try replace hp2 := Rows.below hp2 hbx); (try replace hm2 := Rows.below hm2 hbx); clear hbx o; have o := hF.own; simp only [World.size_alloc, World.size_drew, World.size_setCell, List.mem_cons, List.not_mem_nil, or_false, forall_eq_or_imp, forall_eq, At, and_true, Nat.zero_add, Nat.reduceAdd, List.set_cons_zero, List.set_cons_succ] at o)))
        go_ret
        exact ⟨by rw [hr.out]; rfl, hF.kp⟩
      · have d3 : (lk == lk2) = false := by simp [e3]
        have hr : Hid (decide (SameR f b lk P M g c lk2 P2 M2) = false) := decide_eq_false fun q => e3 q.2.2.1
        clear e1 e2 e3
        go_enter Try.func48, Try.ntmps48
        go_wp2_with ((go_at_call 57; clear tok1; go_must (refine (L1.out _ hp hp2).mono ?_); rintro e wx ⟨rfl, hbx⟩; (replace hF := hF.below hbx; (try replace hp := Rows.below hp hbx); (try replace hm := Rows.below hm hbx); (try replace hp2 := Rows.below hp2 hbx); (try replace hm2 := Rows.below hm2 hbx); clear hbx o; have o := hF.own; simp only [World.size_alloc, World.size_drew, World.size_setCell, List.mem_cons, List.not_mem_nil, or_false, forall_eq_or_imp, forall_eq, At, and_true, Nat.zero_add, Nat.reduceAdd, List.set_cons_zero, List.set_cons_succ] at o)))
        go_ret
        exact ⟨by rw [hr.out]; rfl, hF.kp⟩
    · have L1 := Lib.hid (fun (w : World) (g1 : Ints w (.slice o1 P.length c1) P) (g2 : Ints w (.slice o3 P2.length c3) P2) => (show Calls Try.prog 57 #[.slice o1 P.length c1, .slice o3 P2.length c3] w fun e w' => e = .returned (.bool false) ∧ Below w.heap.size w w' from by have := lyInts_any _ _ P P2 w g1 g2; rwa [(decide_eq_false e2)] at this))
      have hr : Hid (decide (SameR f b lk P M g c lk2 P2 M2) = false) := decide_eq_false fun q => e2 q.2.1
      clear e1 e2
      go_enter Try.func48, Try.ntmps48
      go_wp2_with ((go_at_call 57; clear tok1; go_must (refine (L1.out _ hp hp2).mono ?_); rintro e wx ⟨rfl, hbx⟩; (replace hF := hF.below hbx; (try replace hp := Rows.below hp hbx); (try replace hm := Rows.below hm hbx); (try replace hp2 := Rows.below hp2 hbx); (try replace hm2 := Rows.below hm2 hbx); clear hbx o; have o := hF.own; simp only [World.size_alloc, World.size_drew, World.size_setCell, List.mem_cons, List.not_mem_nil, or_false, forall_eq_or_imp, forall_eq, At, and_true, Nat.zero_add, Nat.reduceAdd, List.set_cons_zero, List.set_cons_succ] at o)))
      go_ret
      exact ⟨by rw [hr.out]; rfl, hF.kp⟩
  · have heql : ∀ w, (binOp .eql 62 (.agg #[.int .i64 f, .int .i64 b]) (.agg #[.int .i64 g, .int .i64 c])).run Try.prog w = .ok (.bool false) w := fun w => by
      rw [rng_eql]
      have : (f == g && b == c) = false := by rw [Bool.eq_false_iff]; intro q; simp at q; exact e1 q
      rw [this]
    have hr : Hid (decide (SameR f b lk P M g c lk2 P2 M2) = false) := decide_eq_false fun q => e1 q.1
    clear e1
    go_enter Try.func48, Try.ntmps48
    go_wp2_with fail
    go_ret
    exact ⟨by rw [hr.out]; rfl, hF.kp⟩
theorem bdI {N : Int} (h : -1 ≤ N ∧ N ≤ 1) : N = -1 ∨ N = 0 ∨ N = 1 := by omega
end Go.Proofs.Ytjkfnjjkjhggfaa
set_option linter.unusedSimpArgs false
set_option linter.unusedVariables false
namespace Go.Proofs.Ytjkfnjjkjhggfaa
open Go.RowKit

theorem lyRoutes_same (v1 v2 : Value) (L : List Rt) (w : World) (h1 : Rts w v1 L) (h2 : Rts w v2 L) :
    Calls Try.prog 37 #[v1, v2] w fun e w' => e = .returned (.bool true) ∧ Below w.heap.size w w' := by
  have hF := Fb.start w
  obtain ⟨ao, n, cap, rfl, hn, hnc, hcap⟩ := GLs.sl h1
  obtain ⟨ap, m, caq, rfl, hm, hmc, hcaq⟩ := GLs.sl h2
  obtain rfl : n = m := by have := hn.out; have := hm.out; omega
  have HV := Lib.hid (And.intro h1 h2)
  clear h1 h2
  go_enter Try.func37, Try.ntmps37
  go_wp2
  go_loopw [5] (fun s5 wr => ∃ k : Nat, k ≤ n ∧ s5 = .int .i64 k ∧ Fb w wr []) (fun i _ => n - (intOf i).toNat)
  case atStart => exact ⟨0, Nat.zero_le _, rfl, hF⟩
  case round =>
    clear hF
    obtain ⟨k, hk, rfl, hF⟩ := hrel
    by_cases hlt : k < n
    · obtain ⟨b1, p1, rfl⟩ := GLs.adr HV.out.1 (by omega)
      obtain ⟨b2, p2, rfl⟩ := GLs.adr HV.out.2 (by omega)
      obtain ⟨s, hs⟩ := get_of hn.out hlt
      obtain ⟨f, b, lk, P, M⟩ := s
      obtain ⟨a1, m1, c1, a2, m2, c2, e0, e1, e2, e3, e4, i1, i2⟩ := Rts.at HV.out.1 hs
      obtain ⟨a3, m3, c3, a4, m4, c4, g0, g1, g2, g3, g4, j1, j2⟩ := Rts.at HV.out.2 hs
      clear hs
      have x0 := fun z : Cl wr.heap.size wr => Cl.old hF z e0
      have x1 := fun z : Cl wr.heap.size wr => Cl.old hF z e1
      have x2 := fun z : Cl wr.heap.size wr => Cl.old hF z e2
      have x3 := fun z : Cl wr.heap.size wr => Cl.old hF z e3
      have x4 := fun z : Cl wr.heap.size wr => Cl.old hF z e4
      have y0 := fun z : Cl wr.heap.size wr => Cl.old hF z g0
      have y1 := fun z : Cl wr.heap.size wr => Cl.old hF z g1
      have y2 := fun z : Cl wr.heap.size wr => Cl.old hF z g2
      have y3 := fun z : Cl wr.heap.size wr => Cl.old hF z g3
      have y4 := fun z : Cl wr.heap.size wr => Cl.old hF z g4
      have cC := Lib.hid (fun z : Cl wr.heap.size wr => (show Calls Try.prog 48 #[.agg #[.int .i64 f, .int .i64 b, .slice a1 m1 c1, .int .i64 lk, .slice a2 m2 c2], .agg #[.int .i64 f, .int .i64 b, .slice a3 m3 c3, .int .i64 lk, .slice a4 m4 c4]] z.W fun e w' => e = .returned (.bool true) ∧ Below z.W.heap.size z.W w' from by
        have := lyRoute_any f b lk _ _ P M f b lk _ _ P M z.W (Rows.below i1 (hF.cl z).kp) (Rows.below i2 (hF.cl z).kp) (Rows.below j1 (hF.cl z).kp) (Rows.below j2 (hF.cl z).kp)
        rwa [decide_eq_true (show SameR f b lk P M f b lk P M from ⟨⟨rfl, rfl⟩, rfl, rfl, rfl⟩)] at this))
      clear e0 e1 e2 e3 e4 g0 g1 g2 g3 g4 i1 i2 j1 j2
      go_wp2
      first | refine wp_region_new (by kernel_rfl) (by kernel_rfl) ?_ | refine wp_region_lex ?_
      repeat (any_goals (first | go_big_quiet_step (((go_at_call 48; exact Calls.cl (cC.out _)))) | (refine wpQuiet_step (fun K hK => ?_); go_simp; split <;> (rename_i hg; refine hK _ ?_; clear hK K; simp only [hg, decide_true, decide_false]))))
      all_goals (refine wpQuiet_nil ?_; intro x)
      go_wp2
      go_roundw
      case rel => exact ⟨k + 1, by omega, by go_num, hF.cl ‹_›⟩
      case measure => simp [intOf]; omega
    · go_wp2
      go_ret
      exact ⟨rfl, hF.kp⟩
set_option maxHeartbeats 4000000 in
theorem lyDelta_same (s1 s2 t1 t2 : Value) (D : List Rg) (L : List Rt) (w : World) (hs1 : Rows w s1 2 encRg D) (hs2 : Rows w s2 2 encRg D) (h1 : Rts w t1 L) (h2 : Rts w t2 L) :
    Calls Try.prog 19 #[.agg #[s1, t1], .agg #[s2, t2]] w fun e w' => e = .returned (.bool true) ∧ Below w.heap.size w w' := by
  obtain ⟨n, cap, hn, hnc, hcap, hv1⟩ := hs1.cases
  obtain ⟨m, caq, hm, hmc, hcaq, hv2⟩ := hs2.cases
  obtain rfl : n = m := by have := hn.out; have := hm.out; omega
  obtain ⟨as1, rfl⟩ : ∃ a, s1 = .slice a n cap := by rcases hv1 with ⟨_, a, e⟩ | ⟨_, b, o, e, _⟩ <;> exact ⟨_, e⟩
  obtain ⟨as2, rfl⟩ : ∃ a, s2 = .slice a n caq := by rcases hv2 with ⟨_, a, e⟩ | ⟨_, b, o, e, _⟩ <;> exact ⟨_, e⟩
  obtain ⟨at1, m1, ct1, rfl, hm1, -, -⟩ := GLs.sl h1
  obtain ⟨at2, m2, ct2, rfl, hm2, -, -⟩ := GLs.sl h2
  have hF := ((Fb.start w).alloc [.slice as1 n cap, .slice at1 m1 ct1] 32).alloc [.slice as2 n caq, .slice at2 m2 ct2] 32
  simp only [World.size_alloc] at hF
  have HV1 := Lib.hid hv1
  have HV2 := Lib.hid hv2
  have HT := Lib.hid (And.intro h1 h2)
  clear hs1 hs2 hv1 hv2 h1 h2
  obtain ⟨n0, hn0⟩ : ∃ n0, w.heap.size = n0 := ⟨_, rfl⟩
  rw [hn0] at hF
  have o := hF.own; simp only [World.size_alloc, World.size_drew, World.size_setCell, List.mem_cons, List.not_mem_nil, or_false, forall_eq_or_imp, forall_eq, At, and_true, Nat.zero_add, Nat.reduceAdd, List.set_cons_zero, List.set_cons_succ] at o
  go_enter Try.func19, Try.ntmps19
  go_wp2
  go_loopw [5] (fun s5 wr => ∃ k : Nat, k ≤ n ∧ s5 = .int .i64 k ∧ Fb w wr [(n0 + 1, [.slice as2 n caq, .slice at2 m2 ct2]), (n0, [.slice as1 n cap, .slice at1 m1 ct1])]) (fun i _ => n - (intOf i).toNat)
  case atStart => exact ⟨0, Nat.zero_le _, rfl, hF⟩
  case round =>
    clear hF o
    obtain ⟨k, hk, rfl, hF⟩ := hrel
    have o := hF.own; simp only [World.size_alloc, World.size_drew, World.size_setCell, List.mem_cons, List.not_mem_nil, or_false, forall_eq_or_imp, forall_eq, At, and_true, Nat.zero_add, Nat.reduceAdd, List.set_cons_zero, List.set_cons_succ] at o
    by_cases hlt : k < n
    · obtain ⟨b1, p1, rfl, hc1⟩ : ∃ b o, as1 = some ⟨b, o, none⟩ ∧ Hid (∀ k x, D[k]? = some x → ∀ j u, (encRg x)[j]? = some u → w.cell? ⟨b, o + k * 2 + j, none⟩ = some u) := by
        rcases HV1.out with ⟨h, _⟩ | ⟨_, b, o, e, h⟩
        · omega
        · injection e with e; exact ⟨b, o, e, h⟩
      obtain ⟨b2, p2, rfl, hc2⟩ : ∃ b o, as2 = some ⟨b, o, none⟩ ∧ Hid (∀ k x, D[k]? = some x → ∀ j u, (encRg x)[j]? = some u → w.cell? ⟨b, o + k * 2 + j, none⟩ = some u) := by
        rcases HV2.out with ⟨h, _⟩ | ⟨_, b, o, e, h⟩
        · omega
        · injection e with e; exact ⟨b, o, e, h⟩
      obtain ⟨⟨f, b⟩, hs⟩ := get_of hn.out hlt
      have oc := fun x : Cl _ wr => (Fb.cl hF x).own; simp only [World.size_alloc, World.size_drew, World.size_setCell, List.mem_cons, List.not_mem_nil, or_false, forall_eq_or_imp, forall_eq, At, and_true, Nat.zero_add, Nat.reduceAdd, List.set_cons_zero, List.set_cons_succ] at oc
      have x0 := fun z : Cl wr.heap.size wr => Cl.old hF z (hc1.out k _ hs 0 _ rfl)
      have x1 := fun z : Cl wr.heap.size wr => Cl.old hF z (hc1.out k _ hs 1 _ rfl)
      have y0 := fun z : Cl wr.heap.size wr => Cl.old hF z (hc2.out k _ hs 0 _ rfl)
      have y1 := fun z : Cl wr.heap.size wr => Cl.old hF z (hc2.out k _ hs 1 _ rfl)
      have heql : ∀ w, (binOp .neq 62 (.agg #[.int .i64 f, .int .i64 b]) (.agg #[.int .i64 f, .int .i64 b])).run Try.prog w = .ok (.bool false) w := fun w => by rw [rng_neq]; simp
      have hle : decide ((k : Int) < (n : Int)) = true := decide_eq_true (by omega)
      clear hs
      simp only [Nat.add_zero] at x0 y0
      go_wp2
      first | refine wp_region_new (by kernel_rfl) (by kernel_rfl) ?_ | refine wp_region_lex ?_
      repeat (any_goals (first | go_big_quiet_step ((fail)) | (refine wpQuiet_step (fun K hK => ?_); go_simp; split <;> (rename_i hg; refine hK _ ?_; clear hK K; simp only [hg, decide_true, decide_false]))))
      all_goals (refine wpQuiet_nil ?_; intro x)
      go_wp2
      go_roundw
      case rel => exact ⟨k + 1, by omega, by go_num, hF.cl ‹_›⟩
      case measure => simp [intOf]; omega
    · have hle : decide ((k : Int) < (n : Int)) = false := decide_eq_false (by omega)
      go_wp2_with fail
      refine (lyRoutes_same _ _ L _ (HT.out.1.below hF.kp) (HT.out.2.below hF.kp)).mono ?_; rintro e w5 ⟨rfl, hb5⟩
      go_wp2_with fail
      go_ret
      exact ⟨rfl, (hF.below hb5).kp⟩
end Go.Proofs.Ytjkfnjjkjhggfaa
