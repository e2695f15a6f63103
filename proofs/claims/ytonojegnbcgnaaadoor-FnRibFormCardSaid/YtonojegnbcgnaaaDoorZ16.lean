/- A route put among routes by range (the model's own way). -/
import Derived.Test.YtonojegnbcgnaaaDoorZ14
import Derived.Test.YtonojegnbcgnaaaDoorZ15
import Derived.Test.YtonojegnbcgnaaaDoorZ12
set_option linter.unusedSimpArgs false
set_option linter.unusedVariables false
namespace Go.Proofs.YtonojegnbcgnaaaDoor
open Go.RowKit

theorem sm_snoc {K : List Rt} {x : Rt} (h : ∀ s ∈ K, SmRt s) (hx : SmRt x) : ∀ s ∈ K ++ [x], SmRt s := fun s hs => by
  rcases List.mem_append.1 hs with hs | hs
  · exact h s hs
  · rw [List.mem_singleton.1 hs]; exact hx
/-- What an append of a route leaves. -/
theorem go2_snoc {E : TypeId} {w0 w w' : World} {R B : Nat} {v v' : Value} {ds : List RtD} {L : List Rt} {d : RtD} {s : Rt} (h : GRel shRt w0 B w0.heap.size v ds L) (K : Below w0.heap.size w0 w) (hO : Own E w' R v' 5 encRt (ds ++ [d])) (hg : w.grownBy w' v.ownBlock) (hf : Frsh w v v') (hd : shRt.rd w d s) (hs : ∀ u ∈ shRt.subs d, Apart u v ∧ ∀ g, u.ownBlock = some g → B ≤ g ∧ g < w.heap.size) : GO2 shRt E w' R B v' (L ++ [s]) :=
  ⟨_, hO, GRel.snoc h (Nat.le_refl _) K hg hf hd hs⟩
theorem sub2 {u v s : Value} {B U : Nat} (h1 : ∀ g, u.ownBlock = some g → B ≤ g ∧ g < U ∧ s.ownBlock ≠ some g) (h2 : ∀ g, v.ownBlock = some g → B ≤ g ∧ g < U ∧ s.ownBlock ≠ some g) : ∀ x ∈ [u, v], Apart x s ∧ ∀ g, x.ownBlock = some g → B ≤ g ∧ g < U := fun x hx => by
  simp only [List.mem_cons, List.not_mem_nil, or_false] at hx
  rcases hx with rfl | rfl
  · exact ⟨fun g a b => (h1 g a).2.2 b, fun g a => ⟨(h1 g a).1, (h1 g a).2.1⟩⟩
  · exact ⟨fun g a b => (h2 g a).2.2 b, fun g a => ⟨(h2 g a).1, (h2 g a).2.1⟩⟩
set_option maxRecDepth 100000 in
set_option maxHeartbeats 4000000 in
theorem l23Put_any (B : Nat) (v : Value) (L : List Rt) (g c l2 : Int) (pv mv : Value) (P M : List Int) (w : World) (hO : GOwn shRt 27 w B v L) (hB : B ≤ w.heap.size) (hi1 : It w pv P) (hi2 : It w mv M) (hL : L.length ≤ 100) (hs : ∀ s ∈ L, SmRt s) (hx : SmRt (g, c, l2, P, M)) :
    Calls Tryd.prog 93 #[v, .agg #[.int .i64 g, .int .i64 c, pv, .int .i64 l2, mv]] w fun e w' => ∃ u K, e = .returned u ∧ GOwn shRt 27 w' B u K ∧ K.length ≤ L.length + 1 ∧ (∀ s ∈ K, SmRt s) ∧ Below w.heap.size w w' := by
  have HX := Lib.hid hx
  have HX4 : Hid (P.length ≤ 1000 ∧ M.length ≤ 1000) := ⟨by have := hx.2.2.2.1.1; dsimp only at this; omega, by have := hx.2.2.2.2; dsimp only at this; omega⟩
  have HSm := Lib.hid hs
  have HO0 := Lib.hid hO
  obtain ⟨o1, c1, rfl, -⟩ := hi1.1.ex
  obtain ⟨o2, c2, rfl, -⟩ := hi2.1.ex
  obtain ⟨ao, n, cap, rfl, hn, hnc, hcap⟩ := GLs.sl hO.gls
  have hn1 : n ≤ 100 := by have := hn.out; omega
  have hF := ((Fb.start w).alloc [.int .i64 g, .int .i64 c, .slice o1 P.length c1, .int .i64 l2, .slice o2 M.length c2] 27).other (.cells #[] 27)
  have HI := Lib.hid (And.intro hi1 hi2)
  clear hO
  have hO : GO2 shRt 27 ((w.alloc (.cells #[.int .i64 g, .int .i64 c, .slice o1 P.length c1, .int .i64 l2, .slice o2 M.length c2] 27)).alloc (.cells #[] 27)) (w.heap.size + 1) B (.slice (some ⟨w.heap.size + 1, 0, none⟩) 0 0) [] := by
    have := GO2.made (S := shRt) 27 (w.alloc (.cells #[.int .i64 g, .int .i64 c, .slice o1 P.length c1, .int .i64 l2, .slice o2 M.length c2] 27)) (w.heap.size + 1) B (by simp)
    simpa only [World.size_alloc] using this
  obtain ⟨n1, hn1'⟩ : ∃ n, w.heap.size = n := ⟨_, rfl⟩
  have hsz : n1 + 1 ≤ ((w.alloc (.cells #[.int .i64 g, .int .i64 c, .slice o1 P.length c1, .int .i64 l2, .slice o2 M.length c2] 27)).alloc (.cells #[] 27)).heap.size := by simp only [World.size_alloc]; omega
  rw [hn1'] at hF hO hB
  have HN := Lib.hid hn1'
  clear hx hs hL hi1 hi2
  go_enter Tryd.func93, Tryd.ntmps93
  go_wp2
  go_loopw [5, 6, 7, 8] (fun s5 s6 s7 s8 wr => ∃ (k : Nat) (p : Bool) (K : List Rt), k ≤ n ∧ s7 = .int .i64 k ∧ s6 = .bool p ∧ K.length ≤ k + 1 ∧ Hid (p = false → K.length ≤ k) ∧ Hid (∀ s ∈ K, SmRt s) ∧ n1 + 1 ≤ wr.heap.size ∧ GO2 shRt 27 wr (n1 + 1) B s5 K ∧ Fb w wr [(n1, [.int .i64 g, .int .i64 c, .slice o1 P.length c1, .int .i64 l2, .slice o2 M.length c2])]) (fun _ _ s7 _ _ => n - (intOf s7).toNat)
  case atStart => exact ⟨0, false, [], Nat.zero_le _, rfl, rfl, by simp, fun _ => (by simp), fun s h => (by simp at h), hsz, hO, hF⟩
  case round =>
    clear hF hO hsz
    obtain ⟨k, p, K, hk, rfl, rfl, hK, hKp, hKs, hsz, hO, hF⟩ := hrel
    by_cases hlt : k < n
    · obtain ⟨b1, p1, rfl⟩ := GLs.adr HO0.out.gls (by omega)
      obtain ⟨s, hs⟩ := get_of hn.out hlt
      have HSS := Lib.hid (HSm.out s (List.mem_of_getElem? hs))
      obtain ⟨f, b, lk, P1, M1⟩ := s
      obtain ⟨a1, m1, k1, a2, m2, k2, ⟨e0, e1, e2, e3, e4⟩, hrd, hsub⟩ := GOwn.rt HO0.out hs
      have HRD := Lib.hid hrd
      have HSUB : Hid ((∀ g, (Value.slice a1 m1 k1).ownBlock = some g → B ≤ g ∧ g < n1) ∧ (∀ g, (Value.slice a2 m2 k2).ownBlock = some g → B ≤ g ∧ g < n1)) := ⟨fun g h => by have := hsub _ (List.mem_cons_self ..) g h; have := HN.out; omega, fun g h => by have := hsub _ (List.mem_cons_of_mem _ (List.mem_cons_self ..)) g h; have := HN.out; omega⟩
      clear hs hrd hsub
      have oc := fun x : Cl _ wr => (Fb.cl hF x).own; simp only [World.size_alloc, World.size_drew, World.size_setCell, List.mem_cons, List.not_mem_nil, or_false, forall_eq_or_imp, forall_eq, At, and_true, Nat.zero_add, Nat.reduceAdd, List.set_cons_zero, List.set_cons_succ] at oc
      have x0 := fun z : Cl wr.heap.size wr => Cl.old hF z e0
      have x1 := fun z : Cl wr.heap.size wr => Cl.old hF z e1
      obtain ⟨N, hN⟩ : ∃ N, rcmp f b g c = N := ⟨_, rfl⟩
      have cC := Lib.hid (fun z : Cl wr.heap.size wr => (show Calls Tryd.prog 61 #[.agg #[.int .i64 f, .int .i64 b], .agg #[.int .i64 g, .int .i64 c]] z.W fun e w' => e = .returned (.int .i64 N) ∧ Below z.W.heap.size z.W w' from by have := l1Cmp_any f b g c z.W; rwa [hN] at this))
      clear hN
      go_wp2
      first | refine wp_region_new (by kernel_rfl) (by kernel_rfl) ?_ | refine wp_region_lex ?_
      repeat (any_goals (first | go_big_quiet_step (((go_at_call 61; exact Calls.cl (cC.out _)))) | (refine wpQuiet_step (fun K hK => ?_); go_simp; split <;> (rename_i hg; refine hK _ ?_; clear hK K; simp only [hg, decide_true, decide_false]))))
      all_goals (refine wpQuiet_nil ?_; intro x)
      obtain ⟨wq, hbq⟩ := x
      have E4 := Lib.hid (⟨e0, e1, e2, e3, e4⟩ : w.cell? ⟨b1, p1 + k * 5, none⟩ = _ ∧ w.cell? ⟨b1, p1 + k * 5 + 1, none⟩ = _ ∧ w.cell? ⟨b1, p1 + k * 5 + 2, none⟩ = _ ∧ w.cell? ⟨b1, p1 + k * 5 + 3, none⟩ = _ ∧ w.cell? ⟨b1, p1 + k * 5 + 4, none⟩ = _)
      replace hF := hF.below hbq
      replace hO := hO.below hbq
      have hsq := hbq.size
      dsimp only
      clear e0 e1 e2 e3 e4 x0 x1 oc cC hbq
      have e0 := hF.old E4.out.1; have e1 := hF.old E4.out.2.1; have e2 := hF.old E4.out.2.2.1; have e3 := hF.old E4.out.2.2.2.1; have e4 := hF.old E4.out.2.2.2.2
      have o := hF.own; simp only [World.size_alloc, World.size_drew, World.size_setCell, List.mem_cons, List.not_mem_nil, or_false, forall_eq_or_imp, forall_eq, At, and_true, Nat.zero_add, Nat.reduceAdd, List.set_cons_zero, List.set_cons_succ] at o
      by_cases hN0 : N = 0
      · subst hN0
        cases p with
        | true =>
          go_wp2_with fail
          go_roundw
          case rel => exact ⟨k + 1, true, K, by omega, by go_num, rfl, by omega, fun h => (by cases h), hKs, by omega, hO, hF⟩
          case measure => simp [intOf]; omega
        | false =>
          have hKl := hKp.out rfl
          have hK2 : Hid (∀ s ∈ K ++ [(g, c, l2, P, M)], SmRt s) := sm_snoc hKs.out HX.out
          have tok1 : True := trivial
          go_wp2_with (first | (go_at_call 40; go_must (refine (l4Copy_any g c l2 _ _ P M _ (It.below HI.out.1 hF.kp) (It.below HI.out.2 hF.kp) HX4.out.1 HX4.out.2).mono ?_); rintro e wy ⟨pv9, mv9, rfl, y1, y2, hby⟩; obtain ⟨oy1, cy1, rfl, -⟩ := y1.1.1.ex; obtain ⟨oy2, cy2, rfl, -⟩ := y2.1.1.ex; have hlo := hO.lt; have hsy := hby.size; replace hF := hF.below hby; replace hO := hO.below hby; clear hby o e0 e1 e2 e3 e4; have e0 := hF.old E4.out.1; have e1 := hF.old E4.out.2.1; have e2 := hF.old E4.out.2.2.1; have e3 := hF.old E4.out.2.2.2.1; have e4 := hF.old E4.out.2.2.2.2; have o := hF.own; simp only [World.size_alloc, World.size_drew, World.size_setCell, List.mem_cons, List.not_mem_nil, or_false, forall_eq_or_imp, forall_eq, At, and_true, Nat.zero_add, Nat.reduceAdd, List.set_cons_zero, List.set_cons_succ] at o) | (at_builtin; (clear tok1); obtain ⟨ds, hOw, hG⟩ := hO; have hlG := hG.1; refine wpList_app rfl _ _ 34 rfl 27 (.agg #[.int .i64 0, .int .i64 0, .slice none 0 0, .int .i64 0, .slice none 0 0]) 5 72 Tryd.underlying34 infoRt rfl (by decide) (by decide) (n1 + 1) encRt _ _ rfl (hOw.alloc _) (⟨g, c, l2, .slice oy1 P.length cy1, .slice oy2 M.length cy2⟩ : RtD) ⟨_, 0, none⟩ 1 rfl rfl (cells_new _ _ _) (by simp [encRt, Value.oneCell']) (by omega) (by simp only [World.size_alloc]; omega) ?_; intro v' wx hO1 hg1 hb1 hf1; (have hO := go2_snoc (s := (g, c, l2, P, M)) hG ((Below.refl _ _).alloc (Nat.le_refl _) _) hO1 hg1 hf1 (Sh.below (S := shRt) ⟨⟨rfl, rfl, rfl⟩, y1.1.1, y2.1.1⟩ ((Below.refl _ _).alloc (Nat.le_refl _) _)) (sub2 (fun g h => ⟨by have := y1.2 g h; omega, by have := y1.2 g h; simp only [World.size_alloc]; omega, fun e => by have := y1.2 g h; have := hlo g e; omega⟩) (fun g h => ⟨by have := y2.2 g h; omega, by have := y2.2 g h; simp only [World.size_alloc]; omega, fun e => by have := y2.2 g h; have := hlo g e; omega⟩))); have hsz9 := hb1.size; simp only [World.size_alloc] at hsz9; replace hF := (hF.other _).belowB hb1 (by omega) (by simp); clear hg1 hb1 hf1 hO1 hOw hG o e0 e1 e2 e3 e4; have e0 := hF.old E4.out.1; have e1 := hF.old E4.out.2.1; have e2 := hF.old E4.out.2.2.1; have e3 := hF.old E4.out.2.2.2.1; have e4 := hF.old E4.out.2.2.2.2; have o := hF.own; simp only [World.size_alloc, World.size_drew, World.size_setCell, List.mem_cons, List.not_mem_nil, or_false, forall_eq_or_imp, forall_eq, At, and_true, Nat.zero_add, Nat.reduceAdd, List.set_cons_zero, List.set_cons_succ] at o))
          go_roundw
          case rel => exact ⟨k + 1, true, K ++ [(g, c, l2, P, M)], by omega, by go_num, rfl, by simp; omega, fun h => (by cases h), hK2, by omega, hO, hF⟩
          case measure => simp [intOf]; omega
      · have dN : (N != 0) = true := by simp [hN0]
        cases p with
        | true =>
          have hK2 : Hid (∀ s ∈ K ++ [(f, b, lk, P1, M1)], SmRt s) := sm_snoc hKs.out HSS.out
          clear hN0
          go_wp2_with ((at_builtin; skip; obtain ⟨ds, hOw, hG⟩ := hO; have hlG := hG.1; refine wpList_app rfl _ _ 34 rfl 27 (.agg #[.int .i64 0, .int .i64 0, .slice none 0 0, .int .i64 0, .slice none 0 0]) 5 72 Tryd.underlying34 infoRt rfl (by decide) (by decide) (n1 + 1) encRt _ _ rfl (hOw.alloc _) (⟨f, b, lk, .slice a1 m1 k1, .slice a2 m2 k2⟩ : RtD) ⟨_, 0, none⟩ 1 rfl rfl (cells_new _ _ _) (by simp [encRt, Value.oneCell']) (by omega) (by simp only [World.size_alloc]; omega) ?_; intro v' wx hO1 hg1 hb1 hf1; (have hO := go2_snoc (s := (f, b, lk, P1, M1)) hG ((Below.refl _ _).alloc (Nat.le_refl _) _) hO1 hg1 hf1 (Sh.below (Sh.below HRD.out hF.kp) ((Below.refl _ _).alloc (Nat.le_refl _) _)) (sub2 (fun g h => ⟨(HSUB.out.1 g h).1, by have := (HSUB.out.1 g h).2; simp only [World.size_alloc]; omega, fun e => by have := (HSUB.out.1 g h).2; have := hOw.ge g e; omega⟩) (fun g h => ⟨(HSUB.out.2 g h).1, by have := (HSUB.out.2 g h).2; simp only [World.size_alloc]; omega, fun e => by have := (HSUB.out.2 g h).2; have := hOw.ge g e; omega⟩))); have hsz9 := hb1.size; simp only [World.size_alloc] at hsz9; replace hF := (hF.other _).belowB hb1 (by omega) (by simp); clear hg1 hb1 hf1 hO1 hOw hG o e0 e1 e2 e3 e4; have e0 := hF.old E4.out.1; have e1 := hF.old E4.out.2.1; have e2 := hF.old E4.out.2.2.1; have e3 := hF.old E4.out.2.2.2.1; have e4 := hF.old E4.out.2.2.2.2; have o := hF.own; simp only [World.size_alloc, World.size_drew, World.size_setCell, List.mem_cons, List.not_mem_nil, or_false, forall_eq_or_imp, forall_eq, At, and_true, Nat.zero_add, Nat.reduceAdd, List.set_cons_zero, List.set_cons_succ] at o))
          go_roundw
          case rel => exact ⟨k + 1, true, K ++ [(f, b, lk, P1, M1)], by omega, by go_num, rfl, by simp; omega, fun h => (by cases h), hK2, by omega, hO, hF⟩
          case measure => simp [intOf]; omega
        | false =>
          have hKl := hKp.out rfl
          by_cases hlz : N < 0
          · have dl : decide (0 ≤ N) = false := decide_eq_false (by omega)
            have hK2 : Hid (∀ s ∈ K ++ [(f, b, lk, P1, M1)], SmRt s) := sm_snoc hKs.out HSS.out
            clear hN0 hlz
            go_wp2_with ((at_builtin; skip; obtain ⟨ds, hOw, hG⟩ := hO; have hlG := hG.1; refine wpList_app rfl _ _ 34 rfl 27 (.agg #[.int .i64 0, .int .i64 0, .slice none 0 0, .int .i64 0, .slice none 0 0]) 5 72 Tryd.underlying34 infoRt rfl (by decide) (by decide) (n1 + 1) encRt _ _ rfl (hOw.alloc _) (⟨f, b, lk, .slice a1 m1 k1, .slice a2 m2 k2⟩ : RtD) ⟨_, 0, none⟩ 1 rfl rfl (cells_new _ _ _) (by simp [encRt, Value.oneCell']) (by omega) (by simp only [World.size_alloc]; omega) ?_; intro v' wx hO1 hg1 hb1 hf1; (have hO := go2_snoc (s := (f, b, lk, P1, M1)) hG ((Below.refl _ _).alloc (Nat.le_refl _) _) hO1 hg1 hf1 (Sh.below (Sh.below HRD.out hF.kp) ((Below.refl _ _).alloc (Nat.le_refl _) _)) (sub2 (fun g h => ⟨(HSUB.out.1 g h).1, by have := (HSUB.out.1 g h).2; simp only [World.size_alloc]; omega, fun e => by have := (HSUB.out.1 g h).2; have := hOw.ge g e; omega⟩) (fun g h => ⟨(HSUB.out.2 g h).1, by have := (HSUB.out.2 g h).2; simp only [World.size_alloc]; omega, fun e => by have := (HSUB.out.2 g h).2; have := hOw.ge g e; omega⟩))); have hsz9 := hb1.size; simp only [World.size_alloc] at hsz9; replace hF := (hF.other _).belowB hb1 (by omega) (by simp); clear hg1 hb1 hf1 hO1 hOw hG o e0 e1 e2 e3 e4; have e0 := hF.old E4.out.1; have e1 := hF.old E4.out.2.1; have e2 := hF.old E4.out.2.2.1; have e3 := hF.old E4.out.2.2.2.1; have e4 := hF.old E4.out.2.2.2.2; have o := hF.own; simp only [World.size_alloc, World.size_drew, World.size_setCell, List.mem_cons, List.not_mem_nil, or_false, forall_eq_or_imp, forall_eq, At, and_true, Nat.zero_add, Nat.reduceAdd, List.set_cons_zero, List.set_cons_succ] at o))
            go_roundw
            case rel => exact ⟨k + 1, false, K ++ [(f, b, lk, P1, M1)], by omega, by go_num, rfl, by simp; omega, fun _ => (by simp; omega), hK2, by omega, hO, hF⟩
            case measure => simp [intOf]; omega
          · have dl : decide (0 ≤ N) = true := decide_eq_true (by omega)
            have hK2 : Hid (∀ s ∈ K ++ [(g, c, l2, P, M)] ++ [(f, b, lk, P1, M1)], SmRt s) := sm_snoc (sm_snoc hKs.out HX.out) HSS.out
            clear hN0 hlz
            have tok1 : True := trivial
            have hK3 : (K ++ [(g, c, l2, P, M)]).length ≤ 102 := by simp; omega
            go_wp2_with (first | (go_at_call 40; go_must (refine (l4Copy_any g c l2 _ _ P M _ (It.below HI.out.1 hF.kp) (It.below HI.out.2 hF.kp) HX4.out.1 HX4.out.2).mono ?_); rintro e wy ⟨pv9, mv9, rfl, y1, y2, hby⟩; obtain ⟨oy1, cy1, rfl, -⟩ := y1.1.1.ex; obtain ⟨oy2, cy2, rfl, -⟩ := y2.1.1.ex; have hlo := hO.lt; have hsy := hby.size; replace hF := hF.below hby; replace hO := hO.below hby; clear hby o e0 e1 e2 e3 e4; have e0 := hF.old E4.out.1; have e1 := hF.old E4.out.2.1; have e2 := hF.old E4.out.2.2.1; have e3 := hF.old E4.out.2.2.2.1; have e4 := hF.old E4.out.2.2.2.2; have o := hF.own; simp only [World.size_alloc, World.size_drew, World.size_setCell, List.mem_cons, List.not_mem_nil, or_false, forall_eq_or_imp, forall_eq, At, and_true, Nat.zero_add, Nat.reduceAdd, List.set_cons_zero, List.set_cons_succ] at o) | (at_builtin; (clear tok1); obtain ⟨ds, hOw, hG⟩ := hO; have hlG := hG.1; refine wpList_app rfl _ _ 34 rfl 27 (.agg #[.int .i64 0, .int .i64 0, .slice none 0 0, .int .i64 0, .slice none 0 0]) 5 72 Tryd.underlying34 infoRt rfl (by decide) (by decide) (n1 + 1) encRt _ _ rfl (hOw.alloc _) (⟨g, c, l2, .slice oy1 P.length cy1, .slice oy2 M.length cy2⟩ : RtD) ⟨_, 0, none⟩ 1 rfl rfl (cells_new _ _ _) (by simp [encRt, Value.oneCell']) (by omega) (by simp only [World.size_alloc]; omega) ?_; intro v' wx hO1 hg1 hb1 hf1; (have hO := go2_snoc (s := (g, c, l2, P, M)) hG ((Below.refl _ _).alloc (Nat.le_refl _) _) hO1 hg1 hf1 (Sh.below (S := shRt) ⟨⟨rfl, rfl, rfl⟩, y1.1.1, y2.1.1⟩ ((Below.refl _ _).alloc (Nat.le_refl _) _)) (sub2 (fun g h => ⟨by have := y1.2 g h; omega, by have := y1.2 g h; simp only [World.size_alloc]; omega, fun e => by have := y1.2 g h; have := hlo g e; omega⟩) (fun g h => ⟨by have := y2.2 g h; omega, by have := y2.2 g h; simp only [World.size_alloc]; omega, fun e => by have := y2.2 g h; have := hlo g e; omega⟩))); have hsz9 := hb1.size; simp only [World.size_alloc] at hsz9; replace hF := (hF.other _).belowB hb1 (by omega) (by simp); clear hg1 hb1 hf1 hO1 hOw hG o e0 e1 e2 e3 e4; have e0 := hF.old E4.out.1; have e1 := hF.old E4.out.2.1; have e2 := hF.old E4.out.2.2.1; have e3 := hF.old E4.out.2.2.2.1; have e4 := hF.old E4.out.2.2.2.2; have o := hF.own; simp only [World.size_alloc, World.size_drew, World.size_setCell, List.mem_cons, List.not_mem_nil, or_false, forall_eq_or_imp, forall_eq, At, and_true, Nat.zero_add, Nat.reduceAdd, List.set_cons_zero, List.set_cons_succ] at o) | (at_builtin; skip; obtain ⟨ds, hOw, hG⟩ := hO; have hlG := hG.1; refine wpList_app rfl _ _ 34 rfl 27 (.agg #[.int .i64 0, .int .i64 0, .slice none 0 0, .int .i64 0, .slice none 0 0]) 5 72 Tryd.underlying34 infoRt rfl (by decide) (by decide) (n1 + 1) encRt _ _ rfl (hOw.alloc _) (⟨f, b, lk, .slice a1 m1 k1, .slice a2 m2 k2⟩ : RtD) ⟨_, 0, none⟩ 1 rfl rfl (cells_new _ _ _) (by simp [encRt, Value.oneCell']) (by omega) (by simp only [World.size_alloc]; omega) ?_; intro v' wx hO1 hg1 hb1 hf1; (have hO := go2_snoc (s := (f, b, lk, P1, M1)) hG ((Below.refl _ _).alloc (Nat.le_refl _) _) hO1 hg1 hf1 (Sh.below (Sh.below HRD.out hF.kp) ((Below.refl _ _).alloc (Nat.le_refl _) _)) (sub2 (fun g h => ⟨(HSUB.out.1 g h).1, by have := (HSUB.out.1 g h).2; simp only [World.size_alloc]; omega, fun e => by have := (HSUB.out.1 g h).2; have := hOw.ge g e; omega⟩) (fun g h => ⟨(HSUB.out.2 g h).1, by have := (HSUB.out.2 g h).2; simp only [World.size_alloc]; omega, fun e => by have := (HSUB.out.2 g h).2; have := hOw.ge g e; omega⟩))); have hsz9 := hb1.size; simp only [World.size_alloc] at hsz9; replace hF := (hF.other _).belowB hb1 (by omega) (by simp); clear hg1 hb1 hf1 hO1 hOw hG o e0 e1 e2 e3 e4; have e0 := hF.old E4.out.1; have e1 := hF.old E4.out.2.1; have e2 := hF.old E4.out.2.2.1; have e3 := hF.old E4.out.2.2.2.1; have e4 := hF.old E4.out.2.2.2.2; have o := hF.own; simp only [World.size_alloc, World.size_drew, World.size_setCell, List.mem_cons, List.not_mem_nil, or_false, forall_eq_or_imp, forall_eq, At, and_true, Nat.zero_add, Nat.reduceAdd, List.set_cons_zero, List.set_cons_succ] at o))
            go_roundw
            case rel => exact ⟨k + 1, true, K ++ [(g, c, l2, P, M)] ++ [(f, b, lk, P1, M1)], by omega, by go_num, rfl, by simp; omega, fun h => (by cases h), hK2, by omega, hO, hF⟩
            case measure => simp [intOf]; omega
    · have hkn : k = n := by omega
      subst hkn
      have o := hF.own; simp only [World.size_alloc, World.size_drew, World.size_setCell, List.mem_cons, List.not_mem_nil, or_false, forall_eq_or_imp, forall_eq, At, and_true, Nat.zero_add, Nat.reduceAdd, List.set_cons_zero, List.set_cons_succ] at o
      cases p with
      | true =>
        go_wp2_with fail
        go_ret
        exact ⟨_, K, rfl, hO.gown (by omega), by have := hn.out; omega, hKs.out, hF.kp⟩
      | false =>
        have hKl := hKp.out rfl
        have hK2 : Hid (∀ s ∈ K ++ [(g, c, l2, P, M)], SmRt s) := sm_snoc hKs.out HX.out
        have tok1 : True := trivial
        go_wp2_with (first | (go_at_call 40; go_must (refine (l4Copy_any g c l2 _ _ P M _ (It.below HI.out.1 hF.kp) (It.below HI.out.2 hF.kp) HX4.out.1 HX4.out.2).mono ?_); rintro e wy ⟨pv9, mv9, rfl, y1, y2, hby⟩; obtain ⟨oy1, cy1, rfl, -⟩ := y1.1.1.ex; obtain ⟨oy2, cy2, rfl, -⟩ := y2.1.1.ex; have hlo := hO.lt; have hsy := hby.size; replace hF := hF.below hby; replace hO := hO.below hby; clear hby o; have o := hF.own; simp only [World.size_alloc, World.size_drew, World.size_setCell, List.mem_cons, List.not_mem_nil, or_false, forall_eq_or_imp, forall_eq, At, and_true, Nat.zero_add, Nat.reduceAdd, List.set_cons_zero, List.set_cons_succ] at o) | (at_builtin; (clear tok1); obtain ⟨ds, hOw, hG⟩ := hO; have hlG := hG.1; refine wpList_app rfl _ _ 34 rfl 27 (.agg #[.int .i64 0, .int .i64 0, .slice none 0 0, .int .i64 0, .slice none 0 0]) 5 72 Tryd.underlying34 infoRt rfl (by decide) (by decide) (n1 + 1) encRt _ _ rfl (hOw.alloc _) (⟨g, c, l2, .slice oy1 P.length cy1, .slice oy2 M.length cy2⟩ : RtD) ⟨_, 0, none⟩ 1 rfl rfl (cells_new _ _ _) (by simp [encRt, Value.oneCell']) (by omega) (by simp only [World.size_alloc]; omega) ?_; intro v' wx hO1 hg1 hb1 hf1; (have hO := go2_snoc (s := (g, c, l2, P, M)) hG ((Below.refl _ _).alloc (Nat.le_refl _) _) hO1 hg1 hf1 (Sh.below (S := shRt) ⟨⟨rfl, rfl, rfl⟩, y1.1.1, y2.1.1⟩ ((Below.refl _ _).alloc (Nat.le_refl _) _)) (sub2 (fun g h => ⟨by have := y1.2 g h; omega, by have := y1.2 g h; simp only [World.size_alloc]; omega, fun e => by have := y1.2 g h; have := hlo g e; omega⟩) (fun g h => ⟨by have := y2.2 g h; omega, by have := y2.2 g h; simp only [World.size_alloc]; omega, fun e => by have := y2.2 g h; have := hlo g e; omega⟩))); have hsz9 := hb1.size; simp only [World.size_alloc] at hsz9; replace hF := (hF.other _).belowB hb1 (by omega) (by simp); clear hg1 hb1 hf1 hO1 hOw hG o; have o := hF.own; simp only [World.size_alloc, World.size_drew, World.size_setCell, List.mem_cons, List.not_mem_nil, or_false, forall_eq_or_imp, forall_eq, At, and_true, Nat.zero_add, Nat.reduceAdd, List.set_cons_zero, List.set_cons_succ] at o))
        go_ret
        exact ⟨_, K ++ [(g, c, l2, P, M)], rfl, hO.gown (by omega), by have := hn.out; simp; omega, hK2.out, hF.kp⟩
end Go.Proofs.YtonojegnbcgnaaaDoor
