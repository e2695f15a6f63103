/- What a house told: the program's RibOk. append of a whole slice onto an owned row, at a step of a region that draws its order. append of any slice, nil or not, onto an owned row. -/
import Derived.Test.YtonojegnbcgnaaaDoorZ15
import Derived.Test.YtonojegnbcgnaaaDoorZ22
import Derived.Test.YtonojegnbcgnaaaDoorZ3
import Derived.Deep.RegionHeldLaw
import Derived.Deep.RegionLaw
import Derived.Deep.AppendLies
set_option linter.unusedSimpArgs false
set_option linter.unusedVariables false
namespace Go.Proofs.YtonojegnbcgnaaaDoor
open Go.RowKit

set_option maxRecDepth 100000 in
set_option maxHeartbeats 8000000 in
theorem iRibOk_any (H : Int) (up : Bool) (v : Value) (L : List Gt) (a : Addr) (w : World) (hv : Gts w v L) (hE : EPath w a) :
    Calls Tryd.prog 25 #[.agg #[.int .i64 H, .bool up, v]] w fun e w' => e = .returned (.bool (decide (RbOk H up L))) ∧ Below w.heap.size w w' := by
  obtain ⟨ao, n, cap, rfl, hn, hnc, hcap⟩ := GLs.sl hv
  have hF := (Fb.start w).alloc [.int .i64 H, .bool up, .slice ao n cap] 44
  obtain ⟨n1, hn1⟩ : ∃ n, w.heap.size = n := ⟨_, rfl⟩
  rw [hn1] at hF
  have HV := Lib.hid hv
  have HE := Lib.hid hE
  clear hv hE
  have o := hF.own; simp only [World.size_alloc, World.size_drew, World.size_setCell, List.mem_cons, List.not_mem_nil, or_false, forall_eq_or_imp, forall_eq, At, and_true, Nat.zero_add, Nat.reduceAdd, List.set_cons_zero, List.set_cons_succ] at o
  by_cases hb : Bts H 1 5
  · have db : decide (Bts H 1 5) = true := decide_eq_true hb
    by_cases h6 : n ≤ 6
    · have d6 : decide (6 < (n : Int)) = false := decide_eq_false (by omega)
      have HB := Lib.hid hb
      have H6 := Lib.hid h6
      clear hb
      go_enter Tryd.func25, Tryd.ntmps25
      go_wp2_with (go_at_call 63; go_must (refine (isHouse_any _ _).mono ?_); rintro e wx ⟨rfl, hbx⟩; replace hF := hF.below hbx; clear hbx o; have o := hF.own; simp only [World.size_alloc, World.size_drew, World.size_setCell, List.mem_cons, List.not_mem_nil, or_false, forall_eq_or_imp, forall_eq, At, and_true, Nat.zero_add, Nat.reduceAdd, List.set_cons_zero, List.set_cons_succ] at o)
      clear hn1
      go_loopw [3, 4, 18] (fun s3 s4 s18 wr => ∃ k : Nat, k ≤ n ∧ s18 = .int .i64 k ∧ Hid (∀ j, j < k → RbStep H up L j) ∧ Fb w wr [(n1, [.int .i64 H, .bool up, .slice ao n cap])]) (fun _ _ i _ => n - (intOf i).toNat)
      case atStart => exact ⟨0, Nat.zero_le _, rfl, fun s h => (by omega), hF⟩
      case round =>
        clear hF o
        obtain ⟨k, hk, rfl, hz, hF⟩ := hrel
        have o := hF.own; simp only [World.size_alloc, World.size_drew, World.size_setCell, List.mem_cons, List.not_mem_nil, or_false, forall_eq_or_imp, forall_eq, At, and_true, Nat.zero_add, Nat.reduceAdd, List.set_cons_zero, List.set_cons_succ] at o
        by_cases hlt : k < n
        · obtain ⟨b1, p1, rfl⟩ := GLs.adr HV.out (by omega)
          obtain ⟨s, hs⟩ := get_of hn.out hlt
          have HS := Lib.hid hs
          obtain ⟨⟨f, b, lk, P, M⟩, old⟩ := s
          obtain ⟨a1, m1, c1, a2, m2, c2, ⟨e0, e1, e2, e3, e4, e5⟩, i1, i2⟩ := Gts.at HV.out hs
          replace i1 := i1.1
          replace i2 := i2.1
          have x0 := hF.old e0
          have x1 := hF.old e1
          have x2 := hF.old e2
          have x3 := hF.old e3
          have x4 := hF.old e4
          have x5 := hF.old e5
          obtain ⟨wa, hwa⟩ : ∃ wa, wr.alloc (.cells #[.int .i64 f, .int .i64 b, .slice a1 m1 c1, .int .i64 lk, .slice a2 m2 c2, .bool old] 48) = wa := ⟨_, rfl⟩
          obtain ⟨n4, hn4⟩ : ∃ n4, wr.heap.size = n4 := ⟨_, rfl⟩
          have hF2 : Fb w wa [(n4, [.int .i64 f, .int .i64 b, .slice a1 m1 c1, .int .i64 lk, .slice a2 m2 c2, .bool old]), (n1, [.int .i64 H, .bool up, .slice (some ⟨b1, p1, none⟩) n cap])] := by rw [← hwa, ← hn4]; exact hF.alloc _ _
          clear hs
          go_wp2
          clear hF o x0 x1 x2 x3 x4 x5 hn4
          have hF := hF2
          clear hF2 hwa
          have oc := fun x : Cl _ wa => (Fb.cl hF x).own; simp only [World.size_alloc, World.size_drew, World.size_setCell, List.mem_cons, List.not_mem_nil, or_false, forall_eq_or_imp, forall_eq, At, and_true, Nat.zero_add, Nat.reduceAdd, List.set_cons_zero, List.set_cons_succ] at oc
          by_cases hq : RtOk f b P lk M
          · have cO := Lib.hid (fun z : Cl wa.heap.size wa => (show Calls Tryd.prog 20 #[.agg #[.int .i64 f, .int .i64 b, .slice a1 m1 c1, .int .i64 lk, .slice a2 m2 c2]] z.W fun e w' => e = .returned (.bool true) ∧ Below z.W.heap.size z.W w' from by have := iRouteOk_any f b lk _ _ P M a z.W (Rows.below i1 (hF.cl z).kp) (Rows.below i2 (hF.cl z).kp) (HE.out.below (hF.cl z).kp); rwa [decide_eq_true hq] at this))
            obtain ⟨ao1, n5, cp1, ee, hn5, -, -⟩ := Ints.sl i1
            injection ee with ee1 ee2 ee3
            subst ee1; subst ee2; subst ee3
            have hm1 : 0 < m1 := by have := hq.2.1; have := hn5.out; omega
            obtain ⟨b5, p5, rfl⟩ := Ints.some i1 hm1
            obtain ⟨x, hx⟩ := get_of hn5.out hm1
            have hh := Lib.hid (show hd (f, b, lk, P, M) = x from by simp [hd, List.getD, hx])
            have y0 := Ints.get i1 hx
            simp only [Nat.add_zero] at y0
            have z0 := fun z : Cl wa.heap.size wa => Cl.old hF z y0
            have HQ := Lib.hid hq
            clear hx e0 e1 e2 e3 e4 e5 i1 i2 y0 hq
            by_cases hxH : x = H
            · have dx : (x != H) = false := by simp [hxH]
              have HH : Hid (hd (f, b, lk, P, M) = H) := hh.out.trans hxH
              clear hxH hh
              by_cases hou : up = true ∨ old = true
              · have HOU := Lib.hid hou
                by_cases h0 : k = 0
                · subst h0
                  have hA : Hid (∀ j, j < 0 + 1 → RbStep H up L j) := rb_go hz.out ((rb_0 HS.out).2 ⟨HQ.out, HH.out, HOU.out⟩)
                  clear hz
                  rcases hou with rfl | rfl
                  ·
                    first | refine wp_region_new (by kernel_rfl) (by kernel_rfl) ?_ | refine wp_region_lex ?_
                    repeat (any_goals (first | go_big_quiet_step (((go_at_call 20; exact Calls.cl (cO.out _)))) | (refine wpQuiet_step (fun K hK => ?_); go_simp; split <;> (rename_i hg; refine hK _ ?_; clear hK K; simp only [hg, decide_true, decide_false]))))
                    all_goals (refine wpQuiet_nil ?_; intro x)
                    go_wp2
                    obtain ⟨wq, hbq⟩ := x
                    dsimp only
                    have hF := hF.below hbq
                    clear oc cO z0 hbq
                    have oc := fun x : Cl _ wq => (Fb.cl hF x).own; simp only [World.size_alloc, World.size_drew, World.size_setCell, List.mem_cons, List.not_mem_nil, or_false, forall_eq_or_imp, forall_eq, At, and_true, Nat.zero_add, Nat.reduceAdd, List.set_cons_zero, List.set_cons_succ] at oc
                    have cC : Hid True := trivial
                    first | refine wp_region_new (by kernel_rfl) (by kernel_rfl) ?_ | refine wp_region_lex ?_
                    repeat (any_goals (first | go_big_quiet_step (((go_at_call 54; exact Calls.cl (cC.out _)))) | (refine wpQuiet_step (fun K hK => ?_); go_simp; split <;> (rename_i hg; refine hK _ ?_; clear hK K; simp only [hg, decide_true, decide_false]))))
                    all_goals (refine wpQuiet_nil ?_; intro x)
                    go_wp2
                    go_roundw
                    case rel => exact ⟨_, by omega, by go_num, hA, (hF.cl ‹_›).rest⟩
                    case measure => simp [intOf]; omega
                  · cases up with
                    | true =>
                      first | refine wp_region_new (by kernel_rfl) (by kernel_rfl) ?_ | refine wp_region_lex ?_
                      repeat (any_goals (first | go_big_quiet_step (((go_at_call 20; exact Calls.cl (cO.out _)))) | (refine wpQuiet_step (fun K hK => ?_); go_simp; split <;> (rename_i hg; refine hK _ ?_; clear hK K; simp only [hg, decide_true, decide_false]))))
                      all_goals (refine wpQuiet_nil ?_; intro x)
                      go_wp2
                      obtain ⟨wq, hbq⟩ := x
                      dsimp only
                      have hF := hF.below hbq
                      clear oc cO z0 hbq
                      have oc := fun x : Cl _ wq => (Fb.cl hF x).own; simp only [World.size_alloc, World.size_drew, World.size_setCell, List.mem_cons, List.not_mem_nil, or_false, forall_eq_or_imp, forall_eq, At, and_true, Nat.zero_add, Nat.reduceAdd, List.set_cons_zero, List.set_cons_succ] at oc
                      have cC : Hid True := trivial
                      first | refine wp_region_new (by kernel_rfl) (by kernel_rfl) ?_ | refine wp_region_lex ?_
                      repeat (any_goals (first | go_big_quiet_step (((go_at_call 54; exact Calls.cl (cC.out _)))) | (refine wpQuiet_step (fun K hK => ?_); go_simp; split <;> (rename_i hg; refine hK _ ?_; clear hK K; simp only [hg, decide_true, decide_false]))))
                      all_goals (refine wpQuiet_nil ?_; intro x)
                      go_wp2
                      go_roundw
                      case rel => exact ⟨_, by omega, by go_num, hA, (hF.cl ‹_›).rest⟩
                      case measure => simp [intOf]; omega
                    | false =>
                      first | refine wp_region_new (by kernel_rfl) (by kernel_rfl) ?_ | refine wp_region_lex ?_
                      repeat (any_goals (first | go_big_quiet_step (((go_at_call 20; exact Calls.cl (cO.out _)))) | (refine wpQuiet_step (fun K hK => ?_); go_simp; split <;> (rename_i hg; refine hK _ ?_; clear hK K; simp only [hg, decide_true, decide_false]))))
                      all_goals (refine wpQuiet_nil ?_; intro x)
                      go_wp2
                      obtain ⟨wq, hbq⟩ := x
                      dsimp only
                      have hF := hF.below hbq
                      clear oc cO z0 hbq
                      have oc := fun x : Cl _ wq => (Fb.cl hF x).own; simp only [World.size_alloc, World.size_drew, World.size_setCell, List.mem_cons, List.not_mem_nil, or_false, forall_eq_or_imp, forall_eq, At, and_true, Nat.zero_add, Nat.reduceAdd, List.set_cons_zero, List.set_cons_succ] at oc
                      have cC : Hid True := trivial
                      first | refine wp_region_new (by kernel_rfl) (by kernel_rfl) ?_ | refine wp_region_lex ?_
                      repeat (any_goals (first | go_big_quiet_step (((go_at_call 54; exact Calls.cl (cC.out _)))) | (refine wpQuiet_step (fun K hK => ?_); go_simp; split <;> (rename_i hg; refine hK _ ?_; clear hK K; simp only [hg, decide_true, decide_false]))))
                      all_goals (refine wpQuiet_nil ?_; intro x)
                      go_wp2
                      go_roundw
                      case rel => exact ⟨_, by omega, by go_num, hA, (hF.cl ‹_›).rest⟩
                      case measure => simp [intOf]; omega
                · obtain ⟨t, ht⟩ := get_of hn.out (show k - 1 < n by omega)
                  have HT := Lib.hid ht
                  have HPR := Lib.hid (rb_r ht (hz.out (k - 1) (by omega))).1
                  obtain ⟨⟨g, c, l2, P2, M2⟩, old2⟩ := t
                  obtain ⟨a3, m3, c3, a4, m4, c4, ⟨g0, g1, -, -, -, -⟩, -, -⟩ := Gts.at HV.out ht
                  have G0 := Lib.hid (And.intro g0 g1)
                  obtain ⟨N, hN⟩ : ∃ N, rcmp g c f b = N := ⟨_, rfl⟩
                  have HN := Lib.hid hN
                  have k1 : ((k : Int) - 1).toNat = k - 1 := by omega
                  have k2 : IntKind.i64.wrap ((k : Int) - 1) = (k : Int) - 1 := IntWalk.i64_in _ (by omega)
                  have k3 : (1 : Int) ≤ (k : Int) := by omega
                  have k4 : (k : Int) - 1 < (n : Int) := by omega
                  have k5 : decide (0 < (k : Int)) = true := decide_eq_true (by omega)
                  have k6 : decide (0 < k) = true := decide_eq_true (by omega)
                  have k7 : (0 : Int) ≤ (k : Int) - 1 := by omega
                  clear ht g0 g1 hN
                  by_cases hlz : N < 0
                  · have hA : Hid (∀ j, j < k + 1 → RbStep H up L j) := rb_go hz.out ((rb_s (by omega) HT.out HS.out).2 ⟨⟨HQ.out, HH.out, HOU.out⟩, by unfold rcS; rw [show rcmp g c f b = N from HN.out]; exact hlz⟩)
                    have dN : decide (0 ≤ N) = false := decide_eq_false (by omega)
                    clear hlz
                    rcases hou with rfl | rfl
                    ·
                      first | refine wp_region_new (by kernel_rfl) (by kernel_rfl) ?_ | refine wp_region_lex ?_
                      repeat (any_goals (first | go_big_quiet_step (((go_at_call 20; exact Calls.cl (cO.out _)))) | (refine wpQuiet_step (fun K hK => ?_); go_simp; split <;> (rename_i hg; refine hK _ ?_; clear hK K; simp only [hg, decide_true, decide_false]))))
                      all_goals (refine wpQuiet_nil ?_; intro x)
                      go_wp2
                      obtain ⟨wq, hbq⟩ := x
                      dsimp only
                      have hF := hF.below hbq
                      clear oc cO z0 hbq
                      have oc := fun x : Cl _ wq => (Fb.cl hF x).own; simp only [World.size_alloc, World.size_drew, World.size_setCell, List.mem_cons, List.not_mem_nil, or_false, forall_eq_or_imp, forall_eq, At, and_true, Nat.zero_add, Nat.reduceAdd, List.set_cons_zero, List.set_cons_succ] at oc
                      have cC := Lib.hid (fun z : Cl wq.heap.size wq => (show Calls Tryd.prog 54 #[.agg #[.int .i64 g, .int .i64 c], .agg #[.int .i64 f, .int .i64 b]] z.W fun e w' => e = .returned (.int .i64 N) ∧ Below z.W.heap.size z.W w' from by have := iRangeCmp_any g c f b z.W; rwa [rc_ok HPR.out.1 HQ.out.1, HN.out] at this))
                      have y0 := fun z : Cl wq.heap.size wq => Cl.old hF z G0.out.1
                      have y1 := fun z : Cl wq.heap.size wq => Cl.old hF z G0.out.2
                      first | refine wp_region_new (by kernel_rfl) (by kernel_rfl) ?_ | refine wp_region_lex ?_
                      repeat (any_goals (first | go_big_quiet_step (((go_at_call 54; exact Calls.cl (cC.out _)))) | (refine wpQuiet_step (fun K hK => ?_); go_simp; split <;> (rename_i hg; refine hK _ ?_; clear hK K; simp only [hg, decide_true, decide_false]))))
                      all_goals (refine wpQuiet_nil ?_; intro x)
                      go_wp2
                      go_roundw
                      case rel => exact ⟨_, by omega, by go_num, hA, (hF.cl ‹_›).rest⟩
                      case measure => simp [intOf]; omega
                    · cases up with
                      | true =>
                        first | refine wp_region_new (by kernel_rfl) (by kernel_rfl) ?_ | refine wp_region_lex ?_
                        repeat (any_goals (first | go_big_quiet_step (((go_at_call 20; exact Calls.cl (cO.out _)))) | (refine wpQuiet_step (fun K hK => ?_); go_simp; split <;> (rename_i hg; refine hK _ ?_; clear hK K; simp only [hg, decide_true, decide_false]))))
                        all_goals (refine wpQuiet_nil ?_; intro x)
                        go_wp2
                        obtain ⟨wq, hbq⟩ := x
                        dsimp only
                        have hF := hF.below hbq
                        clear oc cO z0 hbq
                        have oc := fun x : Cl _ wq => (Fb.cl hF x).own; simp only [World.size_alloc, World.size_drew, World.size_setCell, List.mem_cons, List.not_mem_nil, or_false, forall_eq_or_imp, forall_eq, At, and_true, Nat.zero_add, Nat.reduceAdd, List.set_cons_zero, List.set_cons_succ] at oc
                        have cC := Lib.hid (fun z : Cl wq.heap.size wq => (show Calls Tryd.prog 54 #[.agg #[.int .i64 g, .int .i64 c], .agg #[.int .i64 f, .int .i64 b]] z.W fun e w' => e = .returned (.int .i64 N) ∧ Below z.W.heap.size z.W w' from by have := iRangeCmp_any g c f b z.W; rwa [rc_ok HPR.out.1 HQ.out.1, HN.out] at this))
                        have y0 := fun z : Cl wq.heap.size wq => Cl.old hF z G0.out.1
                        have y1 := fun z : Cl wq.heap.size wq => Cl.old hF z G0.out.2
                        first | refine wp_region_new (by kernel_rfl) (by kernel_rfl) ?_ | refine wp_region_lex ?_
                        repeat (any_goals (first | go_big_quiet_step (((go_at_call 54; exact Calls.cl (cC.out _)))) | (refine wpQuiet_step (fun K hK => ?_); go_simp; split <;> (rename_i hg; refine hK _ ?_; clear hK K; simp only [hg, decide_true, decide_false]))))
                        all_goals (refine wpQuiet_nil ?_; intro x)
                        go_wp2
                        go_roundw
                        case rel => exact ⟨_, by omega, by go_num, hA, (hF.cl ‹_›).rest⟩
                        case measure => simp [intOf]; omega
                      | false =>
                        first | refine wp_region_new (by kernel_rfl) (by kernel_rfl) ?_ | refine wp_region_lex ?_
                        repeat (any_goals (first | go_big_quiet_step (((go_at_call 20; exact Calls.cl (cO.out _)))) | (refine wpQuiet_step (fun K hK => ?_); go_simp; split <;> (rename_i hg; refine hK _ ?_; clear hK K; simp only [hg, decide_true, decide_false]))))
                        all_goals (refine wpQuiet_nil ?_; intro x)
                        go_wp2
                        obtain ⟨wq, hbq⟩ := x
                        dsimp only
                        have hF := hF.below hbq
                        clear oc cO z0 hbq
                        have oc := fun x : Cl _ wq => (Fb.cl hF x).own; simp only [World.size_alloc, World.size_drew, World.size_setCell, List.mem_cons, List.not_mem_nil, or_false, forall_eq_or_imp, forall_eq, At, and_true, Nat.zero_add, Nat.reduceAdd, List.set_cons_zero, List.set_cons_succ] at oc
                        have cC := Lib.hid (fun z : Cl wq.heap.size wq => (show Calls Tryd.prog 54 #[.agg #[.int .i64 g, .int .i64 c], .agg #[.int .i64 f, .int .i64 b]] z.W fun e w' => e = .returned (.int .i64 N) ∧ Below z.W.heap.size z.W w' from by have := iRangeCmp_any g c f b z.W; rwa [rc_ok HPR.out.1 HQ.out.1, HN.out] at this))
                        have y0 := fun z : Cl wq.heap.size wq => Cl.old hF z G0.out.1
                        have y1 := fun z : Cl wq.heap.size wq => Cl.old hF z G0.out.2
                        first | refine wp_region_new (by kernel_rfl) (by kernel_rfl) ?_ | refine wp_region_lex ?_
                        repeat (any_goals (first | go_big_quiet_step (((go_at_call 54; exact Calls.cl (cC.out _)))) | (refine wpQuiet_step (fun K hK => ?_); go_simp; split <;> (rename_i hg; refine hK _ ?_; clear hK K; simp only [hg, decide_true, decide_false]))))
                        all_goals (refine wpQuiet_nil ?_; intro x)
                        go_wp2
                        go_roundw
                        case rel => exact ⟨_, by omega, by go_num, hA, (hF.cl ‹_›).rest⟩
                        case measure => simp [intOf]; omega
                  · have hr : Hid (decide (RbOk H up L) = false) := rb_no hn.out hlt (fun g9 => hlz (by have := ((rb_s (by omega) HT.out HS.out).1 g9).2; unfold rcS at this; rw [show rcmp g c f b = N from HN.out] at this; exact this))
                    have dN : decide (0 ≤ N) = true := decide_eq_true (by omega)
                    clear hlz
                    rcases hou with rfl | rfl
                    ·
                      first | refine wp_region_new (by kernel_rfl) (by kernel_rfl) ?_ | refine wp_region_lex ?_
                      repeat (any_goals (first | go_big_quiet_step (((go_at_call 20; exact Calls.cl (cO.out _)))) | (refine wpQuiet_step (fun K hK => ?_); go_simp; split <;> (rename_i hg; refine hK _ ?_; clear hK K; simp only [hg, decide_true, decide_false]))))
                      all_goals (refine wpQuiet_nil ?_; intro x)
                      go_wp2
                      obtain ⟨wq, hbq⟩ := x
                      dsimp only
                      have hF := hF.below hbq
                      clear oc cO z0 hbq
                      have oc := fun x : Cl _ wq => (Fb.cl hF x).own; simp only [World.size_alloc, World.size_drew, World.size_setCell, List.mem_cons, List.not_mem_nil, or_false, forall_eq_or_imp, forall_eq, At, and_true, Nat.zero_add, Nat.reduceAdd, List.set_cons_zero, List.set_cons_succ] at oc
                      have cC := Lib.hid (fun z : Cl wq.heap.size wq => (show Calls Tryd.prog 54 #[.agg #[.int .i64 g, .int .i64 c], .agg #[.int .i64 f, .int .i64 b]] z.W fun e w' => e = .returned (.int .i64 N) ∧ Below z.W.heap.size z.W w' from by have := iRangeCmp_any g c f b z.W; rwa [rc_ok HPR.out.1 HQ.out.1, HN.out] at this))
                      have y0 := fun z : Cl wq.heap.size wq => Cl.old hF z G0.out.1
                      have y1 := fun z : Cl wq.heap.size wq => Cl.old hF z G0.out.2
                      first | refine wp_region_new (by kernel_rfl) (by kernel_rfl) ?_ | refine wp_region_lex ?_
                      repeat (any_goals (first | go_big_quiet_step (((go_at_call 54; exact Calls.cl (cC.out _)))) | (refine wpQuiet_step (fun K hK => ?_); go_simp; split <;> (rename_i hg; refine hK _ ?_; clear hK K; simp only [hg, decide_true, decide_false]))))
                      all_goals (refine wpQuiet_nil ?_; intro x)
                      go_wp2
                      go_ret
                      exact ⟨by rw [hr.out]; rfl, (hF.cl ‹_›).kp⟩
                    · cases up with
                      | true =>
                        first | refine wp_region_new (by kernel_rfl) (by kernel_rfl) ?_ | refine wp_region_lex ?_
                        repeat (any_goals (first | go_big_quiet_step (((go_at_call 20; exact Calls.cl (cO.out _)))) | (refine wpQuiet_step (fun K hK => ?_); go_simp; split <;> (rename_i hg; refine hK _ ?_; clear hK K; simp only [hg, decide_true, decide_false]))))
                        all_goals (refine wpQuiet_nil ?_; intro x)
                        go_wp2
                        obtain ⟨wq, hbq⟩ := x
                        dsimp only
                        have hF := hF.below hbq
                        clear oc cO z0 hbq
                        have oc := fun x : Cl _ wq => (Fb.cl hF x).own; simp only [World.size_alloc, World.size_drew, World.size_setCell, List.mem_cons, List.not_mem_nil, or_false, forall_eq_or_imp, forall_eq, At, and_true, Nat.zero_add, Nat.reduceAdd, List.set_cons_zero, List.set_cons_succ] at oc
                        have cC := Lib.hid (fun z : Cl wq.heap.size wq => (show Calls Tryd.prog 54 #[.agg #[.int .i64 g, .int .i64 c], .agg #[.int .i64 f, .int .i64 b]] z.W fun e w' => e = .returned (.int .i64 N) ∧ Below z.W.heap.size z.W w' from by have := iRangeCmp_any g c f b z.W; rwa [rc_ok HPR.out.1 HQ.out.1, HN.out] at this))
                        have y0 := fun z : Cl wq.heap.size wq => Cl.old hF z G0.out.1
                        have y1 := fun z : Cl wq.heap.size wq => Cl.old hF z G0.out.2
                        first | refine wp_region_new (by kernel_rfl) (by kernel_rfl) ?_ | refine wp_region_lex ?_
                        repeat (any_goals (first | go_big_quiet_step (((go_at_call 54; exact Calls.cl (cC.out _)))) | (refine wpQuiet_step (fun K hK => ?_); go_simp; split <;> (rename_i hg; refine hK _ ?_; clear hK K; simp only [hg, decide_true, decide_false]))))
                        all_goals (refine wpQuiet_nil ?_; intro x)
                        go_wp2
                        go_ret
                        exact ⟨by rw [hr.out]; rfl, (hF.cl ‹_›).kp⟩
                      | false =>
                        first | refine wp_region_new (by kernel_rfl) (by kernel_rfl) ?_ | refine wp_region_lex ?_
                        repeat (any_goals (first | go_big_quiet_step (((go_at_call 20; exact Calls.cl (cO.out _)))) | (refine wpQuiet_step (fun K hK => ?_); go_simp; split <;> (rename_i hg; refine hK _ ?_; clear hK K; simp only [hg, decide_true, decide_false]))))
                        all_goals (refine wpQuiet_nil ?_; intro x)
                        go_wp2
                        obtain ⟨wq, hbq⟩ := x
                        dsimp only
                        have hF := hF.below hbq
                        clear oc cO z0 hbq
                        have oc := fun x : Cl _ wq => (Fb.cl hF x).own; simp only [World.size_alloc, World.size_drew, World.size_setCell, List.mem_cons, List.not_mem_nil, or_false, forall_eq_or_imp, forall_eq, At, and_true, Nat.zero_add, Nat.reduceAdd, List.set_cons_zero, List.set_cons_succ] at oc
                        have cC := Lib.hid (fun z : Cl wq.heap.size wq => (show Calls Tryd.prog 54 #[.agg #[.int .i64 g, .int .i64 c], .agg #[.int .i64 f, .int .i64 b]] z.W fun e w' => e = .returned (.int .i64 N) ∧ Below z.W.heap.size z.W w' from by have := iRangeCmp_any g c f b z.W; rwa [rc_ok HPR.out.1 HQ.out.1, HN.out] at this))
                        have y0 := fun z : Cl wq.heap.size wq => Cl.old hF z G0.out.1
                        have y1 := fun z : Cl wq.heap.size wq => Cl.old hF z G0.out.2
                        first | refine wp_region_new (by kernel_rfl) (by kernel_rfl) ?_ | refine wp_region_lex ?_
                        repeat (any_goals (first | go_big_quiet_step (((go_at_call 54; exact Calls.cl (cC.out _)))) | (refine wpQuiet_step (fun K hK => ?_); go_simp; split <;> (rename_i hg; refine hK _ ?_; clear hK K; simp only [hg, decide_true, decide_false]))))
                        all_goals (refine wpQuiet_nil ?_; intro x)
                        go_wp2
                        go_ret
                        exact ⟨by rw [hr.out]; rfl, (hF.cl ‹_›).kp⟩
              · have hr : Hid (decide (RbOk H up L) = false) := rb_no hn.out hlt (fun g => hou (rb_r HS.out g).2.2)
                have hu : up = false := by cases up with | true => exact absurd (Or.inl rfl) hou | false => rfl
                have ho : old = false := by cases old with | true => exact absurd (Or.inr rfl) hou | false => rfl
                clear hou
                subst hu
                subst ho
                first | refine wp_region_new (by kernel_rfl) (by kernel_rfl) ?_ | refine wp_region_lex ?_
                repeat (any_goals (first | go_big_quiet_step (((go_at_call 20; exact Calls.cl (cO.out _)))) | (refine wpQuiet_step (fun K hK => ?_); go_simp; split <;> (rename_i hg; refine hK _ ?_; clear hK K; simp only [hg, decide_true, decide_false]))))
                all_goals (refine wpQuiet_nil ?_; intro x)
                go_wp2
                go_ret
                exact ⟨by rw [hr.out]; rfl, (hF.cl ‹_›).kp⟩
            · have dx : (x != H) = true := by simp [hxH]
              have hr : Hid (decide (RbOk H up L) = false) := rb_no hn.out hlt (fun g => hxH (hh.out.symm.trans (rb_r HS.out g).2.1))
              clear hxH hh
              first | refine wp_region_new (by kernel_rfl) (by kernel_rfl) ?_ | refine wp_region_lex ?_
              repeat (any_goals (first | go_big_quiet_step (((go_at_call 20; exact Calls.cl (cO.out _)))) | (refine wpQuiet_step (fun K hK => ?_); go_simp; split <;> (rename_i hg; refine hK _ ?_; clear hK K; simp only [hg, decide_true, decide_false]))))
              all_goals (refine wpQuiet_nil ?_; intro x)
              go_wp2
              go_ret
              exact ⟨by rw [hr.out]; rfl, (hF.cl ‹_›).kp⟩
          · have cO := Lib.hid (fun z : Cl wa.heap.size wa => (show Calls Tryd.prog 20 #[.agg #[.int .i64 f, .int .i64 b, .slice a1 m1 c1, .int .i64 lk, .slice a2 m2 c2]] z.W fun e w' => e = .returned (.bool false) ∧ Below z.W.heap.size z.W w' from by have := iRouteOk_any f b lk _ _ P M a z.W (Rows.below i1 (hF.cl z).kp) (Rows.below i2 (hF.cl z).kp) (HE.out.below (hF.cl z).kp); rwa [decide_eq_false hq] at this))
            have hr : Hid (decide (RbOk H up L) = false) := rb_no hn.out hlt (fun g => hq (rb_r HS.out g).1)
            clear e0 e1 e2 e3 e4 e5 i1 i2 hq
            first | refine wp_region_new (by kernel_rfl) (by kernel_rfl) ?_ | refine wp_region_lex ?_
            repeat (any_goals (first | go_big_quiet_step (((go_at_call 20; exact Calls.cl (cO.out _)))) | (refine wpQuiet_step (fun K hK => ?_); go_simp; split <;> (rename_i hg; refine hK _ ?_; clear hK K; simp only [hg, decide_true, decide_false]))))
            all_goals (refine wpQuiet_nil ?_; intro x)
            go_wp2
            go_ret
            exact ⟨by rw [hr.out]; rfl, (hF.cl ‹_›).kp⟩
        · have hr : Hid (decide (RbOk H up L) = true) := rb_yes hn.out HB.out H6.out (fun j hj => hz.out j (by omega))
          go_wp2
          go_ret
          exact ⟨by rw [hr.out]; rfl, hF.kp⟩
    · have d6 : decide (6 < (n : Int)) = true := decide_eq_true (by omega)
      have hr : Hid (decide (RbOk H up L) = false) := rb_long hn.out h6
      clear hb
      go_enter Tryd.func25, Tryd.ntmps25
      go_wp2_with (go_at_call 63; go_must (refine (isHouse_any _ _).mono ?_); rintro e wx ⟨rfl, hbx⟩; replace hF := hF.below hbx; clear hbx o; have o := hF.own; simp only [World.size_alloc, World.size_drew, World.size_setCell, List.mem_cons, List.not_mem_nil, or_false, forall_eq_or_imp, forall_eq, At, and_true, Nat.zero_add, Nat.reduceAdd, List.set_cons_zero, List.set_cons_succ] at o)
      go_ret
      clear hn1
      exact ⟨by rw [hr.out]; rfl, hF.kp⟩
  · have db : decide (Bts H 1 5) = false := decide_eq_false hb
    have hr : Hid (decide (RbOk H up L) = false) := rb_house hb
    clear hb
    go_enter Tryd.func25, Tryd.ntmps25
    go_wp2_with (go_at_call 63; go_must (refine (isHouse_any _ _).mono ?_); rintro e wx ⟨rfl, hbx⟩; replace hF := hF.below hbx; clear hbx o; have o := hF.own; simp only [World.size_alloc, World.size_drew, World.size_setCell, List.mem_cons, List.not_mem_nil, or_false, forall_eq_or_imp, forall_eq, At, and_true, Nat.zero_add, Nat.reduceAdd, List.set_cons_zero, List.set_cons_succ] at o)
    go_ret
    clear hn1
    exact ⟨by rw [hr.out]; rfl, hF.kp⟩
end Go.Proofs.YtonojegnbcgnaaaDoor
set_option linter.unusedSimpArgs false
set_option linter.unusedVariables false
namespace Go.Proofs.YtonojegnbcgnaaaDoor
open Go Go.RowKit

theorem step_appsM {α : Type} {P : Program} {ops : Array Oper} {o : Oper} {a : Act} {w : World} {K : Act → World → Prop} {Q : Exit → Act → World → Prop} {F : Prop} (hw : Region.wanted o (yielded ops a.tmps) = true) (s x : Operand) (t : TypeId)
    (ho : o.op = .call { callee := .builtin .append, args := #[s, x], argTypes := #[t, t] })
    (E : TypeId) (z : Value) (sz bytes : Nat) (ht : P.underlying t = some (.slice E)) (hI : (P.info? E).map (fun i => (i.zero, i.size, i.bytes)) = some (some z, sz, bytes)) (hzs : z.cells.size = sz) (hsz : 0 < sz) (hby : bytes ≤ 1000)
    (B : Nat) (enc : α → List Value) (hen : ∀ x, (enc x).length = sz) (v : Value) (L : List α) (hs : a.eval s = v) (hown : Own E w B v sz enc L)
    (b off m c : Nat) (K2 : List α) (hone : ∀ x ∈ K2, ∀ u ∈ enc x, u.oneCell' = true) (hx : a.eval x = .slice (some ⟨b, off, none⟩) m c) (hK : Rows w (.slice (some ⟨b, off, none⟩) m c) sz enc K2)
    (hlen : L.length + m ≤ 1000000) (hB : B ≤ w.heap.size)
    (h : ∀ v' w', Own E w' B v' sz enc (L ++ K2) → w.grownBy w' v.ownBlock → Below B w w' → Frsh w v v' → K (a.put o.dst v') w') : if Region.wanted o (yielded ops a.tmps) = true then Oper.wp P o a w K Q else F := by
  rw [if_pos hw]
  obtain ⟨i, hi, hz, hsize, hbytes⟩ := info_parts hI
  have hKm : K2.length = m := by
    obtain ⟨ao, cap, e, _⟩ := hK.ex
    injection e with _ e; exact e.symm
  have hm : L.length + m ≤ maxLen := by unfold maxLen; omega
  have hb : (L.length + m) * bytes ≤ 140737488355328 := Nat.le_trans (Nat.mul_le_mul (show L.length + m ≤ 1000001 by omega) hby) (by omega)
  have hfl : (K2.flatMap enc).length = m * sz := by rw [flat_len hen, hKm]
  have hone' : ∀ u ∈ K2.flatMap enc, u.oneCell' = true := fun u hu => by
    obtain ⟨y, hy1, hy⟩ := List.mem_flatMap.1 hu
    exact hone y hy1 u hy
  obtain ⟨v', w', hr, h2, h3, h4⟩ := run_append_own (P := P) w B t o.type E i z sz bytes ht hi hz hsize hbytes hzs hsz v L.length (L.flatMap enc) hown ⟨b, off, none⟩ m c (K2.flatMap enc) hfl (rows_flat hK hen) hone' hm hb hB
  have hf := append_block0 (P := P) (w := w) B t o.type E i z sz bytes ht hi hz hsize hbytes v L.length (L.flatMap enc) hown ⟨b, off, none⟩ m c (K2.flatMap enc) hfl (rows_flat hK hen) hone' hm hb hr
  unfold Oper.wp execOp
  simp only [ho, resolve, invoke, builtin, Sem.run_bind, Sem.run_pure, Result.andThen_ok, List.map_toArray, List.map_cons, List.map_nil, hs, hx, hr]
  exact h v' w' (by unfold Own; rw [List.length_append, List.flatMap_append, hKm]; exact h2) h3 (own_grown hown h3 hB) hf
theorem step_apps {α : Type} {P : Program} {ops : Array Oper} {o : Oper} {a : Act} {w : World} {K : Act → World → Prop} {Q : Exit → Act → World → Prop} {F : Prop} (hw : Region.wanted o (yielded ops a.tmps) = true) (s x : Operand) (t : TypeId)
    (ho : o.op = .call { callee := .builtin .append, args := #[s, x], argTypes := #[t, t] })
    (E : TypeId) (z : Value) (sz bytes : Nat) (ht : P.underlying t = some (.slice E)) (hI : (P.info? E).map (fun i => (i.zero, i.size, i.bytes)) = some (some z, sz, bytes)) (hzs : z.cells.size = sz) (hsz : 0 < sz) (hby : bytes ≤ 1000)
    (B : Nat) (enc : α → List Value) (hen : ∀ x, (enc x).length = sz) (hone : ∀ x, ∀ u ∈ enc x, u.oneCell' = true) (v : Value) (L : List α) (hs : a.eval s = v) (hown : Own E w B v sz enc L)
    (b off m c : Nat) (K2 : List α) (hx : a.eval x = .slice (some ⟨b, off, none⟩) m c) (hK : Rows w (.slice (some ⟨b, off, none⟩) m c) sz enc K2)
    (hlen : L.length + m ≤ 1000000) (hB : B ≤ w.heap.size)
    (h : ∀ v' w', Own E w' B v' sz enc (L ++ K2) → w.grownBy w' v.ownBlock → Below B w w' → Frsh w v v' → K (a.put o.dst v') w') : if Region.wanted o (yielded ops a.tmps) = true then Oper.wp P o a w K Q else F := by
  rw [if_pos hw]
  obtain ⟨i, hi, hz, hsize, hbytes⟩ := info_parts hI
  have hKm : K2.length = m := by
    obtain ⟨ao, cap, e, _⟩ := hK.ex
    injection e with _ e; exact e.symm
  have hm : L.length + m ≤ maxLen := by unfold maxLen; omega
  have hb : (L.length + m) * bytes ≤ 140737488355328 := Nat.le_trans (Nat.mul_le_mul (show L.length + m ≤ 1000001 by omega) hby) (by omega)
  have hfl : (K2.flatMap enc).length = m * sz := by rw [flat_len hen, hKm]
  have hone' : ∀ u ∈ K2.flatMap enc, u.oneCell' = true := fun u hu => by
    obtain ⟨y, _, hy⟩ := List.mem_flatMap.1 hu
    exact hone y u hy
  obtain ⟨v', w', hr, h2, h3, h4⟩ := run_append_own (P := P) w B t o.type E i z sz bytes ht hi hz hsize hbytes hzs hsz v L.length (L.flatMap enc) hown ⟨b, off, none⟩ m c (K2.flatMap enc) hfl (rows_flat hK hen) hone' hm hb hB
  have hf := append_block0 (P := P) (w := w) B t o.type E i z sz bytes ht hi hz hsize hbytes v L.length (L.flatMap enc) hown ⟨b, off, none⟩ m c (K2.flatMap enc) hfl (rows_flat hK hen) hone' hm hb hr
  unfold Oper.wp execOp
  simp only [ho, resolve, invoke, builtin, Sem.run_bind, Sem.run_pure, Result.andThen_ok, List.map_toArray, List.map_cons, List.map_nil, hs, hx, hr]
  exact h v' w' (by unfold Own; rw [List.length_append, List.flatMap_append, hKm]; exact h2) h3 (own_grown hown h3 hB) hf
theorem step_app1 {α : Type} {P : Program} {ops : Array Oper} {o : Oper} {a : Act} {w : World} {K : Act → World → Prop} {Q : Exit → Act → World → Prop} {F : Prop} (hw : Region.wanted o (yielded ops a.tmps) = true) (s x : Operand) (t : TypeId)
    (ho : o.op = .call { callee := .builtin .append, args := #[s, x], argTypes := #[t, t] })
    (E : TypeId) (z : Value) (sz bytes : Nat) (ht : P.underlying t = some (.slice E)) (hI : (P.info? E).map (fun i => (i.zero, i.size, i.bytes)) = some (some z, sz, bytes)) (hzs : z.cells.size = sz) (hsz : 0 < sz) (hby : bytes ≤ 1000)
    (B : Nat) (enc : α → List Value) (v : Value) (L : List α) (hs : a.eval s = v) (hown : Own E w B v sz enc L) (y : α)
    (ad : Addr) (c : Nat) (hx : a.eval x = .slice (some ad) 1 c) (hl : (enc y).length = sz) (hnews : ∀ j u, (enc y)[j]? = some u → w.cell? (ad.add j) = some u) (h1 : ∀ u ∈ enc y, u.oneCell' = true)
    (hlen : L.length ≤ 1000000) (hB : B ≤ w.heap.size)
    (h : ∀ v' w', Own E w' B v' sz enc (L ++ [y]) → w.grownBy w' v.ownBlock → Below B w w' → Frsh w v v' → K (a.put o.dst v') w') : if Region.wanted o (yielded ops a.tmps) = true then Oper.wp P o a w K Q else F := by
  rw [if_pos hw]
  obtain ⟨i, hi, hz, hsize, hbytes⟩ := info_parts hI
  have hm : L.length + 1 ≤ maxLen := by unfold maxLen; omega
  have hb : (L.length + 1) * bytes ≤ 140737488355328 := Nat.le_trans (Nat.mul_le_mul (show L.length + 1 ≤ 1000001 by omega) hby) (by omega)
  obtain ⟨v', w', hr, h2, h3, h4⟩ := run_append_own (P := P) w B t o.type E i z sz bytes ht hi hz hsize hbytes hzs hsz v L.length (L.flatMap enc) hown ad 1 c (enc y) (by omega) hnews h1 hm hb hB
  have hf := append_block (P := P) (w := w) B t o.type E i z sz bytes ht hi hz hsize hbytes v L.length (L.flatMap enc) hown ad 1 c (enc y) (by omega) hnews h1 hm hb (by omega) hr
  unfold Oper.wp execOp
  simp only [ho, resolve, invoke, builtin, Sem.run_bind, Sem.run_pure, Result.andThen_ok, List.map_toArray, List.map_cons, List.map_nil, hs, hx, hr]
  exact h v' w' (by unfold Own; rw [List.length_append, List.flatMap_append]; simpa using h2) h3 (own_grown hown h3 hB) hf
/-- A guarded operation that is wanted, in a region that goes in order. -/
theorem wpListG {P : Program} {ops : Array Oper} {rest : List Oper} {o : Oper} {a : Act} {w : World} {Q : Exit → Act → World → Prop} (hw : Region.wanted o (yielded ops a.tmps) = true)
    (h : if Region.wanted o (yielded ops a.tmps) = true then Oper.wp P o a w (wpList P ops Q rest) Q else True) : wpList P ops Q (o :: rest) a w := by
  rw [if_pos hw] at h
  unfold wpList
  rw [if_pos hw]
  exact Or.inl h
end Go.Proofs.YtonojegnbcgnaaaDoor
set_option linter.unusedSimpArgs false
set_option linter.unusedVariables false
namespace Go.Proofs.YtonojegnbcgnaaaDoor
open Go Go.RowKit

theorem run_app_none {P : Program} (w : World) (t ty E : TypeId) (i : TypeInfo) (ht : P.underlying t = some (.slice E)) (hi : P.info? E = some i) (base size n c : Nat) (v : Value) (xs : List Value) (h : w.ownsRow base E size v n xs) :
    (Builtin.append_ #[t, t] ty #[v, .slice none 0 c]).run P w = .ok v w := by
  obtain ⟨h1, ⟨rfl, h2⟩ | ⟨g, cap, cur, rfl, _, _, h4, _⟩⟩ := h
  · simp [Builtin.append_, run_underlying ht, sizeOf, typeInfo, hi, Builtin.lenOf, Builtin.firstCells]
  · simp [Builtin.append_, run_underlying ht, sizeOf, typeInfo, hi, Builtin.lenOf, Builtin.firstCells, storeCells, h4]
theorem run_appsZ {α : Type} {P : Program} {w : World} (t ty E : TypeId) (z : Value) (sz bytes : Nat) (ht : P.underlying t = some (.slice E)) (hI : (P.info? E).map (fun i => (i.zero, i.size, i.bytes)) = some (some z, sz, bytes)) (hzs : z.cells.size = sz) (hsz : 0 < sz) (hby : bytes ≤ 1000)
    (B : Nat) (enc : α → List Value) (hen : ∀ x, (enc x).length = sz) (v : Value) (L : List α) (hown : Own E w B v sz enc L)
    (xv : Value) (K : List α) (hone : ∀ x ∈ K, ∀ u ∈ enc x, u.oneCell' = true) (hK : Rows w xv sz enc K) (hlen : L.length + K.length ≤ 4000000) (hB : B ≤ w.heap.size) :
    ∃ v' w', (Builtin.append_ #[t, t] ty #[v, xv]).run P w = .ok v' w' ∧ Own E w' B v' sz enc (L ++ K) ∧ w.grownBy w' v.ownBlock ∧ Below B w w' ∧ Frsh w v v' := by
  obtain ⟨i, hi, hz, hsize, hbytes⟩ := info_parts hI
  obtain ⟨ao, cap, rfl, h1, h2, h3⟩ := hK.ex
  have hm : L.length + K.length ≤ maxLen := by unfold maxLen; omega
  have hb : (L.length + K.length) * bytes ≤ 140737488355328 := Nat.le_trans (Nat.mul_le_mul (show L.length + K.length ≤ 4000001 by omega) hby) (by omega)
  cases ao with
  | none =>
    have hk : K = [] := by
      cases K with
      | nil => rfl
      | cons y K => obtain ⟨b, off, e, _⟩ := h3 0 y rfl; cases e
    subst hk
    refine ⟨v, w, run_app_none w t ty E i ht hi B sz L.length cap v _ hown, by simpa using hown, ⟨rfl, rfl, rfl, Nat.le_refl _, fun _ _ _ => rfl⟩, Below.refl _ _, Or.inl rfl⟩
  | some ad =>
    have hfl : (K.flatMap enc).length = K.length * sz := flat_len hen K
    have hone' : ∀ u ∈ K.flatMap enc, u.oneCell' = true := fun u hu => by
      obtain ⟨y, hy1, hy⟩ := List.mem_flatMap.1 hu
      exact hone y hy1 u hy
    have hnews : ∀ j u, (K.flatMap enc)[j]? = some u → w.cell? (ad.add j) = some u := fun j u hj => by
      obtain ⟨k, x, q, hk, hq, e⟩ := flat_at hen K j u hj
      obtain ⟨b, off, e1, hc⟩ := h3 k x hk
      injection e1 with e1
      subst e1
      rw [addr_add', e, ← Nat.add_assoc]
      exact hc q u hq
    obtain ⟨v', w', hr, k2, k3, k4⟩ := run_append_own (P := P) w B t ty E i z sz bytes ht hi hz hsize hbytes hzs hsz v L.length (L.flatMap enc) hown ad K.length cap (K.flatMap enc) hfl hnews hone' hm hb hB
    have hf := append_block0 (P := P) (w := w) B t ty E i z sz bytes ht hi hz hsize hbytes v L.length (L.flatMap enc) hown ad K.length cap (K.flatMap enc) hfl hnews hone' hm hb hr
    exact ⟨v', w', hr, by unfold Own; rw [List.length_append, List.flatMap_append]; exact k2, k3, own_grown hown k3 hB, hf⟩
theorem step_appsZ {α : Type} {P : Program} {ops : Array Oper} {o : Oper} {a : Act} {w : World} {K : Act → World → Prop} {Q : Exit → Act → World → Prop} {F : Prop} (hw : Region.wanted o (yielded ops a.tmps) = true) (s x : Operand) (t : TypeId)
    (ho : o.op = .call { callee := .builtin .append, args := #[s, x], argTypes := #[t, t] })
    (E : TypeId) (z : Value) (sz bytes : Nat) (ht : P.underlying t = some (.slice E)) (hI : (P.info? E).map (fun i => (i.zero, i.size, i.bytes)) = some (some z, sz, bytes)) (hzs : z.cells.size = sz) (hsz : 0 < sz) (hby : bytes ≤ 1000)
    (B : Nat) (enc : α → List Value) (hen : ∀ x, (enc x).length = sz) (v : Value) (L : List α) (hs : a.eval s = v) (hown : Own E w B v sz enc L)
    (xv : Value) (K2 : List α) (hone : ∀ x ∈ K2, ∀ u ∈ enc x, u.oneCell' = true) (hx : a.eval x = xv) (hK : Rows w xv sz enc K2)
    (hlen : L.length + K2.length ≤ 4000000) (hB : B ≤ w.heap.size)
    (h : ∀ v' w', Own E w' B v' sz enc (L ++ K2) → w.grownBy w' v.ownBlock → Below B w w' → Frsh w v v' → K (a.put o.dst v') w') : if Region.wanted o (yielded ops a.tmps) = true then Oper.wp P o a w K Q else F := by
  rw [if_pos hw]
  obtain ⟨v', w', hr, h1, h2, h3, h4⟩ := run_appsZ (P := P) t o.type E z sz bytes ht hI hzs hsz hby B enc hen v L hown xv K2 hone hK hlen hB
  unfold Oper.wp execOp
  simp only [ho, resolve, invoke, builtin, Sem.run_bind, Sem.run_pure, Result.andThen_ok, List.map_toArray, List.map_cons, List.map_nil, hs, hx, hr]
  exact h v' w' h1 h2 h3 h4
theorem wpList_appsZ {α : Type} {P : Program} {ops : Array Oper} {rest : List Oper} {o : Oper} {a : Act} {w : World} {Q : Exit → Act → World → Prop} (hgd : o.guard = none) (s x : Operand) (t : TypeId)
    (ho : o.op = .call { callee := .builtin .append, args := #[s, x], argTypes := #[t, t] })
    (E : TypeId) (z : Value) (sz bytes : Nat) (ht : P.underlying t = some (.slice E)) (hI : (P.info? E).map (fun i => (i.zero, i.size, i.bytes)) = some (some z, sz, bytes)) (hzs : z.cells.size = sz) (hsz : 0 < sz) (hby : bytes ≤ 1000)
    (B : Nat) (enc : α → List Value) (hen : ∀ x, (enc x).length = sz) (v : Value) (L : List α) (hs : a.eval s = v) (hown : Own E w B v sz enc L)
    (xv : Value) (K2 : List α) (hone : ∀ x ∈ K2, ∀ u ∈ enc x, u.oneCell' = true) (hx : a.eval x = xv) (hK : Rows w xv sz enc K2)
    (hlen : L.length + K2.length ≤ 4000000) (hB : B ≤ w.heap.size)
    (h : ∀ v' w', Own E w' B v' sz enc (L ++ K2) → w.grownBy w' v.ownBlock → Below B w w' → Frsh w v v' → wpList P ops Q rest (a.put o.dst v') w') : wpList P ops Q (o :: rest) a w := by
  obtain ⟨v', w', hr, h1, h2, h3, h4⟩ := run_appsZ (P := P) t o.type E z sz bytes ht hI hzs hsz hby B enc hen v L hown xv K2 hone hK hlen hB
  refine wpList_plain hgd fun K hK => ?_
  unfold Oper.wp execOp
  simp only [ho, resolve, invoke, builtin, Sem.run_bind, Sem.run_pure, Result.andThen_ok, List.map_toArray, List.map_cons, List.map_nil, hs, hx, hr]
  exact hK _ _ (h v' w' h1 h2 h3 h4)
end Go.Proofs.YtonojegnbcgnaaaDoor
