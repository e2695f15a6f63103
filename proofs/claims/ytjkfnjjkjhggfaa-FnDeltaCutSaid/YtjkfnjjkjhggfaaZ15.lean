/- A route put among routes by range (the model's own way). A route drawn that a house tells. Routes by range: both RoutesOk. -/
import Derived.Test.YtjkfnjjkjhggfaaZ14
import Derived.Test.YtjkfnjjkjhggfaaZ12
import Derived.Test.YtjkfnjjkjhggfaaZ11
import Derived.Test.YtjkfnjjkjhggfaaZ9
set_option linter.unusedSimpArgs false
set_option linter.unusedVariables false
namespace Go.Proofs.Ytjkfnjjkjhggfaa
open Go.RowKit

theorem sm_snoc {K : List Rt} {x : Rt} (h : ∀ s ∈ K, SmRt s) (hx : SmRt x) : ∀ s ∈ K ++ [x], SmRt s := fun s hs => by
  rcases List.mem_append.1 hs with hs | hs
  · exact h s hs
  · rw [List.mem_singleton.1 hs]; exact hx
/-- What an append of a route leaves. -/
theorem go2_snoc {E : TypeId} {w0 w w' : World} {R B : Nat} {v v' : Value} {ds : List RtD} {L : List Rt} {d : RtD} {s : Rt} (h : GRel shRt w0 B w0.heap.size v ds L) (K : Below w0.heap.size w0 w) (hO : Own E w' R v' 5 encRt (ds ++ [d])) (hg : w.grownBy w' v.ownBlock) (hf : Frsh w v v') (hd : shRt.rd w d s) (hs : ∀ u ∈ shRt.subs d, Apart u v ∧ ∀ g, u.ownBlock = some g → B ≤ g ∧ g < w.heap.size) : GO2 shRt E w' R B v' (L ++ [s]) :=
  ⟨_, hO, GRel.snoc h (Nat.le_refl _) K hg hf hd hs⟩
theorem sub2 {u v s : Value} {B U : Nat} (h1 : ∀ g, u.ownBlock = some g → B ≤ g ∧ g < U ∧ s.ownBlock ≠ some g) (h2 : ∀ g, v.ownBlock = some g → B ≤ g ∧ g < U ∧ s.ownBlock ≠ some g) : ∀ x ∈ [u, v], Apart x s ∧ ∀ g, x.ownBlock = some g → B ≤ g ∧ g < U := fun x hx => by
  simp only [List.mem_cons, List.not_mem_nil, or_false] at hx
  rcases hx with rfl | rfl
  · exact ⟨fun g a b => (h1 g a).2.2 b, fun g a => ⟨(h1 g a).1, (h1 g a).2.1⟩⟩
  · exact ⟨fun g a b => (h2 g a).2.2 b, fun g a => ⟨(h2 g a).1, (h2 g a).2.1⟩⟩
set_option maxRecDepth 100000 in
set_option maxHeartbeats 4000000 in
theorem l23Put_any (B : Nat) (v : Value) (L : List Rt) (g c l2 : Int) (pv mv : Value) (P M : List Int) (w : World) (hO : GOwn shRt 64 w B v L) (hB : B ≤ w.heap.size) (hi1 : It w pv P) (hi2 : It w mv M) (hL : L.length ≤ 100) (hs : ∀ s ∈ L, SmRt s) (hx : SmRt (g, c, l2, P, M)) :
    Calls Try.prog 43 #[v, .agg #[.int .i64 g, .int .i64 c, pv, .int .i64 l2, mv]] w fun e w' => ∃ u K, e = .returned u ∧ GOwn shRt 64 w' B u K ∧ K.length ≤ L.length + 1 ∧ (∀ s ∈ K, SmRt s) ∧ Below w.heap.size w w' := by
  have HX := Lib.hid hx
  have HX4 : Hid (P.length ≤ 1000 ∧ M.length ≤ 1000) := ⟨by have := hx.2.2.2.1.1; dsimp only at this; omega, by have := hx.2.2.2.2; dsimp only at this; omega⟩
  have HSm := Lib.hid hs
  have HO0 := Lib.hid hO
  obtain ⟨o1, c1, rfl, -⟩ := hi1.1.ex
  obtain ⟨o2, c2, rfl, -⟩ := hi2.1.ex
  obtain ⟨ao, n, cap, rfl, hn, hnc, hcap⟩ := GLs.sl hO.gls
  have hn1 : n ≤ 100 := by have := hn.out; omega
  have hF := ((Fb.start w).alloc [.int .i64 g, .int .i64 c, .slice o1 P.length c1, .int .i64 l2, .slice o2 M.length c2] 64).other (.cells #[] 64)
  have HI := Lib.hid (And.intro hi1 hi2)
  clear hO
  have hO : GO2 shRt 64 ((w.alloc (.cells #[.int .i64 g, .int .i64 c, .slice o1 P.length c1, .int .i64 l2, .slice o2 M.length c2] 64)).alloc (.cells #[] 64)) (w.heap.size + 1) B (.slice (some ⟨w.heap.size + 1, 0, none⟩) 0 0) [] := by
    have := GO2.made (S := shRt) 64 (w.alloc (.cells #[.int .i64 g, .int .i64 c, .slice o1 P.length c1, .int .i64 l2, .slice o2 M.length c2] 64)) (w.heap.size + 1) B (by simp)
    simpa only [World.size_alloc] using this
  obtain ⟨n1, hn1'⟩ : ∃ n, w.heap.size = n := ⟨_, rfl⟩
  have hsz : n1 + 1 ≤ ((w.alloc (.cells #[.int .i64 g, .int .i64 c, .slice o1 P.length c1, .int .i64 l2, .slice o2 M.length c2] 64)).alloc (.cells #[] 64)).heap.size := by simp only [World.size_alloc]; omega
  rw [hn1'] at hF hO hB
  have HN := Lib.hid hn1'
  clear hx hs hL hi1 hi2
  go_enter Try.func43, Try.ntmps43
  go_wp2
  go_loopw [5, 6, 7, 8] (fun s5 s6 s7 s8 wr => ∃ (k : Nat) (p : Bool) (K : List Rt), k ≤ n ∧ s7 = .int .i64 k ∧ s6 = .bool p ∧ K.length ≤ k + 1 ∧ Hid (p = false → K.length ≤ k) ∧ Hid (∀ s ∈ K, SmRt s) ∧ n1 + 1 ≤ wr.heap.size ∧ GO2 shRt 64 wr (n1 + 1) B s5 K ∧ Fb w wr [(n1, [.int .i64 g, .int .i64 c, .slice o1 P.length c1, .int .i64 l2, .slice o2 M.length c2])]) (fun _ _ s7 _ _ => n - (intOf s7).toNat)
  case atStart => exact ⟨0, false, [], Nat.zero_le _, rfl, rfl, by simp, fun _ => (by simp), fun s h => (by simp at h), hsz, hO, hF⟩
  case round =>
    clear hF hO hsz
    obtain ⟨k, p, K, hk, rfl, rfl, hK, hKp, hKs, hsz, hO, hF⟩ := hrel
    by_cases hlt : k < n
    · obtain ⟨b1, p1, rfl⟩ := GLs.adr HO0.out.gls (by omega)
      obtain ⟨s, hs⟩ := get_of hn.out hlt
      have HSS := Lib.hid (HSm.out s (List.mem_of_getElem? hs))
      obtain ⟨f, b, lk, P1, M1⟩ := s
      obtain ⟨a1, m1, k1, a2, m2, k2, ⟨e0, e1, e2, e3, e4⟩, hrd, hsub⟩ := GOwn.rt HO0.out hs
      have HRD := Lib.hid hrd
      have HSUB : Hid ((∀ g, (Value.slice a1 m1 k1).ownBlock = some g → B ≤ g ∧ g < n1) ∧ (∀ g, (Value.slice a2 m2 k2).ownBlock = some g → B ≤ g ∧ g < n1)) := ⟨fun g h => by have := hsub _ (List.mem_cons_self ..) g h; have := HN.out; omega, fun g h => by have := hsub _ (List.mem_cons_of_mem _ (List.mem_cons_self ..)) g h; have := HN.out; omega⟩
      clear hs hrd hsub
      have oc := fun x : Cl _ wr => (Fb.cl hF x).own; simp only [World.size_alloc, World.size_drew, World.size_setCell, List.mem_cons, List.not_mem_nil, or_false, forall_eq_or_imp, forall_eq, At, and_true, Nat.zero_add, Nat.reduceAdd, List.set_cons_zero, List.set_cons_succ] at oc
      have x0 := fun z : Cl wr.heap.size wr => Cl.old hF z e0
      have x1 := fun z : Cl wr.heap.size wr => Cl.old hF z e1
      obtain ⟨N, hN⟩ : ∃ N, rcmp f b g c = N := ⟨_, rfl⟩
      have cC := Lib.hid (fun z : Cl wr.heap.size wr => (show Calls Try.prog 51 #[.agg #[.int .i64 f, .int .i64 b], .agg #[.int .i64 g, .int .i64 c]] z.W fun e w' => e = .returned (.int .i64 N) ∧ Below z.W.heap.size z.W w' from by have := l1Cmp_any f b g c z.W; rwa [hN] at this))
      clear hN
      go_wp2
      first | refine wp_region_new (by kernel_rfl) (by kernel_rfl) ?_ | refine wp_region_lex ?_
      repeat (any_goals (first | go_big_quiet_step (((go_at_call 51; exact Calls.cl (cC.out _)))) | (refine wpQuiet_step (fun K hK => ?_); go_simp; split <;> (rename_i hg; refine hK _ ?_; clear hK K; simp only [hg, decide_true, decide_false]))))
      all_goals (refine wpQuiet_nil ?_; intro x)
      obtain ⟨wq, hbq⟩ := x
      have E4 := Lib.hid (⟨e0, e1, e2, e3, e4⟩ : w.cell? ⟨b1, p1 + k * 5, none⟩ = _ ∧ w.cell? ⟨b1, p1 + k * 5 + 1, none⟩ = _ ∧ w.cell? ⟨b1, p1 + k * 5 + 2, none⟩ = _ ∧ w.cell? ⟨b1, p1 + k * 5 + 3, none⟩ = _ ∧ w.cell? ⟨b1, p1 + k * 5 + 4, none⟩ = _)
      replace hF := hF.below hbq
      replace hO := hO.below hbq
      have hsq := hbq.size
      dsimp only
      clear e0 e1 e2 e3 e4 x0 x1 oc cC hbq
      have e0 := hF.old E4.out.1; have e1 := hF.old E4.out.2.1; have e2 := hF.old E4.out.2.2.1; have e3 := hF.old E4.out.2.2.2.1; have e4 := hF.old E4.out.2.2.2.2
      have o := hF.own; simp only [World.size_alloc, World.size_drew, World.size_setCell, List.mem_cons, List.not_mem_nil, or_false, forall_eq_or_imp, forall_eq, At, and_true, Nat.zero_add, Nat.reduceAdd, List.set_cons_zero, List.set_cons_succ] at o
      by_cases hN0 : N = 0
      · subst hN0
        cases p with
        | true =>
          go_wp2_with fail
          go_roundw
          case rel => exact ⟨k + 1, true, K, by omega, by go_num, rfl, by omega, fun h => (by cases h), hKs, by omega, hO, hF⟩
          case measure => simp [intOf]; omega
        | false =>
          have hKl := hKp.out rfl
          have hK2 : Hid (∀ s ∈ K ++ [(g, c, l2, P, M)], SmRt s) := sm_snoc hKs.out HX.out
          have tok1 : True := trivial
          go_wp2_with (first | (go_at_call 36; go_must (refine (l4Copy_any g c l2 _ _ P M _ (It.below HI.out.1 hF.kp) (It.below HI.out.2 hF.kp) HX4.out.1 HX4.out.2).mono ?_); rintro e wy ⟨pv9, mv9, rfl, y1, y2, hby⟩; obtain ⟨oy1, cy1, rfl, -⟩ := y1.1.1.ex; obtain ⟨oy2, cy2, rfl, -⟩ := y2.1.1.ex; have hlo := hO.lt; have hsy := hby.size; replace hF := hF.below hby; replace hO := hO.below hby; clear hby o e0 e1 e2 e3 e4; have e0 := hF.old E4.out.1; have e1 := hF.old E4.out.2.1; have e2 := hF.old E4.out.2.2.1; have e3 := hF.old E4.out.2.2.2.1; have e4 := hF.old E4.out.2.2.2.2; have o := hF.own; simp only [World.size_alloc, World.size_drew, World.size_setCell, List.mem_cons, List.not_mem_nil, or_false, forall_eq_or_imp, forall_eq, At, and_true, Nat.zero_add, Nat.reduceAdd, List.set_cons_zero, List.set_cons_succ] at o) | (at_builtin; (clear tok1); obtain ⟨ds, hOw, hG⟩ := hO; have hlG := hG.1; refine wpList_app rfl _ _ 30 rfl 64 (.agg #[.int .i64 0, .int .i64 0, .slice none 0 0, .int .i64 0, .slice none 0 0]) 5 72 Try.underlying30 infoRt rfl (by decide) (by decide) (n1 + 1) encRt _ _ rfl (hOw.alloc _) (⟨g, c, l2, .slice oy1 P.length cy1, .slice oy2 M.length cy2⟩ : RtD) ⟨_, 0, none⟩ 1 rfl rfl (cells_new _ _ _) (by simp [encRt, Value.oneCell']) (by omega) (by simp only [World.size_alloc]; omega) ?_; intro v' wx hO1 hg1 hb1 hf1; (have hO := go2_snoc (s := (g, c, l2, P, M)) hG ((Below.refl _ _).alloc (Nat.le_refl _) _) hO1 hg1 hf1 (Sh.below (S := shRt) ⟨⟨rfl, rfl, rfl⟩, y1.1.1, y2.1.1⟩ ((Below.refl _ _).alloc (Nat.le_refl _) _)) (sub2 (fun g h => ⟨by have := y1.2 g h; omega, by have := y1.2 g h; simp only [World.size_alloc]; omega, fun e => by have := y1.2 g h; have := hlo g e; omega⟩) (fun g h => ⟨by have := y2.2 g h; omega, by have := y2.2 g h; simp only [World.size_alloc]; omega, fun e => by have := y2.2 g h; have := hlo g e; omega⟩))); have hsz9 := hb1.size; simp only [World.size_alloc] at hsz9; replace hF := (hF.other _).belowB hb1 (by omega) (by simp); clear hg1 hb1 hf1 hO1 hOw hG o e0 e1 e2 e3 e4; have e0 := hF.old E4.out.1; have e1 := hF.old E4.out.2.1; have e2 := hF.old E4.out.2.2.1; have e3 := hF.old E4.out.2.2.2.1; have e4 := hF.old E4.out.2.2.2.2; have o := hF.own; simp only [World.size_alloc, World.size_drew, World.size_setCell, List.mem_cons, List.not_mem_nil, or_false, forall_eq_or_imp, forall_eq, At, and_true, Nat.zero_add, Nat.reduceAdd, List.set_cons_zero, List.set_cons_succ] at o))
          go_roundw
          case rel => exact ⟨k + 1, true, K ++ [(g, c, l2, P, M)], by omega, by go_num, rfl, by simp; omega, fun h => (by cases h), hK2, by omega, hO, hF⟩
          case measure => simp [intOf]; omega
      · have dN : (N != 0) = true := by simp [hN0]
        cases p with
        | true =>
          have hK2 : Hid (∀ s ∈ K ++ [(f, b, lk, P1, M1)], SmRt s) := sm_snoc hKs.out HSS.out
          clear hN0
          go_wp2_with ((at_builtin; skip; obtain ⟨ds, hOw, hG⟩ := hO; have hlG := hG.1; refine wpList_app rfl _ _ 30 rfl 64 (.agg #[.int .i64 0, .int .i64 0, .slice none 0 0, .int .i64 0, .slice none 0 0]) 5 72 Try.underlying30 infoRt rfl (by decide) (by decide) (n1 + 1) encRt _ _ rfl (hOw.alloc _) (⟨f, b, lk, .slice a1 m1 k1, .slice a2 m2 k2⟩ : RtD) ⟨_, 0, none⟩ 1 rfl rfl (cells_new _ _ _) (by simp [encRt, Value.oneCell']) (by omega) (by simp only [World.size_alloc]; omega) ?_; intro v' wx hO1 hg1 hb1 hf1; (have hO := go2_snoc (s := (f, b, lk, P1, M1)) hG ((Below.refl _ _).alloc (Nat.le_refl _) _) hO1 hg1 hf1 (Sh.below (Sh.below HRD.out hF.kp) ((Below.refl _ _).alloc (Nat.le_refl _) _)) (sub2 (fun g h => ⟨(HSUB.out.1 g h).1, by have := (HSUB.out.1 g h).2; simp only [World.size_alloc]; omega, fun e => by have := (HSUB.out.1 g h).2; have := hOw.ge g e; omega⟩) (fun g h => ⟨(HSUB.out.2 g h).1, by have := (HSUB.out.2 g h).2; simp only [World.size_alloc]; omega, fun e => by have := (HSUB.out.2 g h).2; have := hOw.ge g e; omega⟩))); have hsz9 := hb1.size; simp only [World.size_alloc] at hsz9; replace hF := (hF.other _).belowB hb1 (by omega) (by simp); clear hg1 hb1 hf1 hO1 hOw hG o e0 e1 e2 e3 e4; have e0 := hF.old E4.out.1; have e1 := hF.old E4.out.2.1; have e2 := hF.old E4.out.2.2.1; have e3 := hF.old E4.out.2.2.2.1; have e4 := hF.old E4.out.2.2.2.2; have o := hF.own; simp only [World.size_alloc, World.size_drew, World.size_setCell, List.mem_cons, List.not_mem_nil, or_false, forall_eq_or_imp, forall_eq, At, and_true, Nat.zero_add, Nat.reduceAdd, List.set_cons_zero, List.set_cons_succ] at o))
          go_roundw
          case rel => exact ⟨k + 1, true, K ++ [(f, b, lk, P1, M1)], by omega, by go_num, rfl, by simp; omega, fun h => (by cases h), hK2, by omega, hO, hF⟩
          case measure => simp [intOf]; omega
        | false =>
          have hKl := hKp.out rfl
          by_cases hlz : N < 0
          · have dl : decide (0 ≤ N) = false := decide_eq_false (by omega)
            have hK2 : Hid (∀ s ∈ K ++ [(f, b, lk, P1, M1)], SmRt s) := sm_snoc hKs.out HSS.out
            clear hN0 hlz
            go_wp2_with ((at_builtin; skip; obtain ⟨ds, hOw, hG⟩ := hO; have hlG := hG.1; refine wpList_app rfl _ _ 30 rfl 64 (.agg #[.int .i64 0, .int .i64 0, .slice none 0 0, .int .i64 0, .slice none 0 0]) 5 72 Try.underlying30 infoRt rfl (by decide) (by decide) (n1 + 1) encRt _ _ rfl (hOw.alloc _) (⟨f, b, lk, .slice a1 m1 k1, .slice a2 m2 k2⟩ : RtD) ⟨_, 0, none⟩ 1 rfl rfl (cells_new _ _ _) (by simp [encRt, Value.oneCell']) (by omega) (by simp only [World.size_alloc]; omega) ?_; intro v' wx hO1 hg1 hb1 hf1; (have hO := go2_snoc (s := (f, b, lk, P1, M1)) hG ((Below.refl _ _).alloc (Nat.le_refl _) _) hO1 hg1 hf1 (Sh.below (Sh.below HRD.out hF.kp) ((Below.refl _ _).alloc (Nat.le_refl _) _)) (sub2 (fun g h => ⟨(HSUB.out.1 g h).1, by have := (HSUB.out.1 g h).2; simp only [World.size_alloc]; omega, fun e => by have := (HSUB.out.1 g h).2; have := hOw.ge g e; omega⟩) (fun g h => ⟨(HSUB.out.2 g h).1, by have := (HSUB.out.2 g h).2; simp only [World.size_alloc]; omega, fun e => by have := (HSUB.out.2 g h).2; have := hOw.ge g e; omega⟩))); have hsz9 := hb1.size; simp only [World.size_alloc] at hsz9; replace hF := (hF.other _).belowB hb1 (by omega) (by simp); clear hg1 hb1 hf1 hO1 hOw hG o e0 e1 e2 e3 e4; have e0 := hF.old E4.out.1; have e1 := hF.old E4.out.2.1; have e2 := hF.old E4.out.2.2.1; have e3 := hF.old E4.out.2.2.2.1; have e4 := hF.old E4.out.2.2.2.2; have o := hF.own; simp only [World.size_alloc, World.size_drew, World.size_setCell, List.mem_cons, List.not_mem_nil, or_false, forall_eq_or_imp, forall_eq, At, and_true, Nat.zero_add, Nat.reduceAdd, List.set_cons_zero, List.set_cons_succ] at o))
            go_roundw
            case rel => exact ⟨k + 1, false, K ++ [(f, b, lk, P1, M1)], by omega, by go_num, rfl, by simp; omega, fun _ => (by simp; omega), hK2, by omega, hO, hF⟩
            case measure => simp [intOf]; omega
          · have dl : decide (0 ≤ N) = true := decide_eq_true (by omega)
            have hK2 : Hid (∀ s ∈ K ++ [(g, c, l2, P, M)] ++ [(f, b, lk, P1, M1)], SmRt s) := sm_snoc (sm_snoc hKs.out HX.out) HSS.out
            clear hN0 hlz
            have tok1 : True := trivial
            have hK3 : (K ++ [(g, c, l2, P, M)]).length ≤ 102 := by simp; omega
            go_wp2_with (first | (go_at_call 36; go_must (refine (l4Copy_any g c l2 _ _ P M _ (It.below HI.out.1 hF.kp) (It.below HI.out.2 hF.kp) HX4.out.1 HX4.out.2).mono ?_); rintro e wy ⟨pv9, mv9, rfl, y1, y2, hby⟩; obtain ⟨oy1, cy1, rfl, -⟩ := y1.1.1.ex; obtain ⟨oy2, cy2, rfl, -⟩ := y2.1.1.ex; have hlo := hO.lt; have hsy := hby.size; replace hF := hF.below hby; replace hO := hO.below hby; clear hby o e0 e1 e2 e3 e4; have e0 := hF.old E4.out.1; have e1 := hF.old E4.out.2.1; have e2 := hF.old E4.out.2.2.1; have e3 := hF.old E4.out.2.2.2.1; have e4 := hF.old E4.out.2.2.2.2; have o := hF.own; simp only [World.size_alloc, World.size_drew, World.size_setCell, List.mem_cons, List.not_mem_nil, or_false, forall_eq_or_imp, forall_eq, At, and_true, Nat.zero_add, Nat.reduceAdd, List.set_cons_zero, List.set_cons_succ] at o) | (at_builtin; (clear tok1); obtain ⟨ds, hOw, hG⟩ := hO; have hlG := hG.1; refine wpList_app rfl _ _ 30 rfl 64 (.agg #[.int .i64 0, .int .i64 0, .slice none 0 0, .int .i64 0, .slice none 0 0]) 5 72 Try.underlying30 infoRt rfl (by decide) (by decide) (n1 + 1) encRt _ _ rfl (hOw.alloc _) (⟨g, c, l2, .slice oy1 P.length cy1, .slice oy2 M.length cy2⟩ : RtD) ⟨_, 0, none⟩ 1 rfl rfl (cells_new _ _ _) (by simp [encRt, Value.oneCell']) (by omega) (by simp only [World.size_alloc]; omega) ?_; intro v' wx hO1 hg1 hb1 hf1; (have hO := go2_snoc (s := (g, c, l2, P, M)) hG ((Below.refl _ _).alloc (Nat.le_refl _) _) hO1 hg1 hf1 (Sh.below (S := shRt) ⟨⟨rfl, rfl, rfl⟩, y1.1.1, y2.1.1⟩ ((Below.refl _ _).alloc (Nat.le_refl _) _)) (sub2 (fun g h => ⟨by have := y1.2 g h; omega, by have := y1.2 g h; simp only [World.size_alloc]; omega, fun e => by have := y1.2 g h; have := hlo g e; omega⟩) (fun g h => ⟨by have := y2.2 g h; omega, by have := y2.2 g h; simp only [World.size_alloc]; omega, fun e => by have := y2.2 g h; have := hlo g e; omega⟩))); have hsz9 := hb1.size; simp only [World.size_alloc] at hsz9; replace hF := (hF.other _).belowB hb1 (by omega) (by simp); clear hg1 hb1 hf1 hO1 hOw hG o e0 e1 e2 e3 e4; have e0 := hF.old E4.out.1; have e1 := hF.old E4.out.2.1; have e2 := hF.old E4.out.2.2.1; have e3 := hF.old E4.out.2.2.2.1; have e4 := hF.old E4.out.2.2.2.2; have o := hF.own; simp only [World.size_alloc, World.size_drew, World.size_setCell, List.mem_cons, List.not_mem_nil, or_false, forall_eq_or_imp, forall_eq, At, and_true, Nat.zero_add, Nat.reduceAdd, List.set_cons_zero, List.set_cons_succ] at o) | (at_builtin; skip; obtain ⟨ds, hOw, hG⟩ := hO; have hlG := hG.1; refine wpList_app rfl _ _ 30 rfl 64 (.agg #[.int .i64 0, .int .i64 0, .slice none 0 0, .int .i64 0, .slice none 0 0]) 5 72 Try.underlying30 infoRt rfl (by decide) (by decide) (n1 + 1) encRt _ _ rfl (hOw.alloc _) (⟨f, b, lk, .slice a1 m1 k1, .slice a2 m2 k2⟩ : RtD) ⟨_, 0, none⟩ 1 rfl rfl (cells_new _ _ _) (by simp [encRt, Value.oneCell']) (by omega) (by simp only [World.size_alloc]; omega) ?_; intro v' wx hO1 hg1 hb1 hf1; (have hO := go2_snoc (s := (f, b, lk, P1, M1)) hG ((Below.refl _ _).alloc (Nat.le_refl _) _) hO1 hg1 hf1 (Sh.below (Sh.below HRD.out hF.kp) ((Below.refl _ _).alloc (Nat.le_refl _) _)) (sub2 (fun g h => ⟨(HSUB.out.1 g h).1, by have := (HSUB.out.1 g h).2; simp only [World.size_alloc]; omega, fun e => by have := (HSUB.out.1 g h).2; have := hOw.ge g e; omega⟩) (fun g h => ⟨(HSUB.out.2 g h).1, by have := (HSUB.out.2 g h).2; simp only [World.size_alloc]; omega, fun e => by have := (HSUB.out.2 g h).2; have := hOw.ge g e; omega⟩))); have hsz9 := hb1.size; simp only [World.size_alloc] at hsz9; replace hF := (hF.other _).belowB hb1 (by omega) (by simp); clear hg1 hb1 hf1 hO1 hOw hG o e0 e1 e2 e3 e4; have e0 := hF.old E4.out.1; have e1 := hF.old E4.out.2.1; have e2 := hF.old E4.out.2.2.1; have e3 := hF.old E4.out.2.2.2.1; have e4 := hF.old E4.out.2.2.2.2; have o := hF.own; simp only [World.size_alloc, World.size_drew, World.size_setCell, List.mem_cons, List.not_mem_nil, or_false, forall_eq_or_imp, forall_eq, At, and_true, Nat.zero_add, Nat.reduceAdd, List.set_cons_zero, List.set_cons_succ] at o))
            go_roundw
            case rel => exact ⟨k + 1, true, K ++ [(g, c, l2, P, M)] ++ [(f, b, lk, P1, M1)], by omega, by go_num, rfl, by simp; omega, fun h => (by cases h), hK2, by omega, hO, hF⟩
            case measure => simp [intOf]; omega
    · have hkn : k = n := by omega
      subst hkn
      have o := hF.own; simp only [World.size_alloc, World.size_drew, World.size_setCell, List.mem_cons, List.not_mem_nil, or_false, forall_eq_or_imp, forall_eq, At, and_true, Nat.zero_add, Nat.reduceAdd, List.set_cons_zero, List.set_cons_succ] at o
      cases p with
      | true =>
        go_wp2_with fail
        go_ret
        exact ⟨_, K, rfl, hO.gown (by omega), by have := hn.out; omega, hKs.out, hF.kp⟩
      | false =>
        have hKl := hKp.out rfl
        have hK2 : Hid (∀ s ∈ K ++ [(g, c, l2, P, M)], SmRt s) := sm_snoc hKs.out HX.out
        have tok1 : True := trivial
        go_wp2_with (first | (go_at_call 36; go_must (refine (l4Copy_any g c l2 _ _ P M _ (It.below HI.out.1 hF.kp) (It.below HI.out.2 hF.kp) HX4.out.1 HX4.out.2).mono ?_); rintro e wy ⟨pv9, mv9, rfl, y1, y2, hby⟩; obtain ⟨oy1, cy1, rfl, -⟩ := y1.1.1.ex; obtain ⟨oy2, cy2, rfl, -⟩ := y2.1.1.ex; have hlo := hO.lt; have hsy := hby.size; replace hF := hF.below hby; replace hO := hO.below hby; clear hby o; have o := hF.own; simp only [World.size_alloc, World.size_drew, World.size_setCell, List.mem_cons, List.not_mem_nil, or_false, forall_eq_or_imp, forall_eq, At, and_true, Nat.zero_add, Nat.reduceAdd, List.set_cons_zero, List.set_cons_succ] at o) | (at_builtin; (clear tok1); obtain ⟨ds, hOw, hG⟩ := hO; have hlG := hG.1; refine wpList_app rfl _ _ 30 rfl 64 (.agg #[.int .i64 0, .int .i64 0, .slice none 0 0, .int .i64 0, .slice none 0 0]) 5 72 Try.underlying30 infoRt rfl (by decide) (by decide) (n1 + 1) encRt _ _ rfl (hOw.alloc _) (⟨g, c, l2, .slice oy1 P.length cy1, .slice oy2 M.length cy2⟩ : RtD) ⟨_, 0, none⟩ 1 rfl rfl (cells_new _ _ _) (by simp [encRt, Value.oneCell']) (by omega) (by simp only [World.size_alloc]; omega) ?_; intro v' wx hO1 hg1 hb1 hf1; (have hO := go2_snoc (s := (g, c, l2, P, M)) hG ((Below.refl _ _).alloc (Nat.le_refl _) _) hO1 hg1 hf1 (Sh.below (S := shRt) ⟨⟨rfl, rfl, rfl⟩, y1.1.1, y2.1.1⟩ ((Below.refl _ _).alloc (Nat.le_refl _) _)) (sub2 (fun g h => ⟨by have := y1.2 g h; omega, by have := y1.2 g h; simp only [World.size_alloc]; omega, fun e => by have := y1.2 g h; have := hlo g e; omega⟩) (fun g h => ⟨by have := y2.2 g h; omega, by have := y2.2 g h; simp only [World.size_alloc]; omega, fun e => by have := y2.2 g h; have := hlo g e; omega⟩))); have hsz9 := hb1.size; simp only [World.size_alloc] at hsz9; replace hF := (hF.other _).belowB hb1 (by omega) (by simp); clear hg1 hb1 hf1 hO1 hOw hG o; have o := hF.own; simp only [World.size_alloc, World.size_drew, World.size_setCell, List.mem_cons, List.not_mem_nil, or_false, forall_eq_or_imp, forall_eq, At, and_true, Nat.zero_add, Nat.reduceAdd, List.set_cons_zero, List.set_cons_succ] at o))
        go_ret
        exact ⟨_, K ++ [(g, c, l2, P, M)], rfl, hO.gown (by omega), by have := hn.out; simp; omega, hK2.out, hF.kp⟩
end Go.Proofs.Ytjkfnjjkjhggfaa
set_option linter.unusedSimpArgs false
set_option linter.unusedVariables false
namespace Go.Proofs.Ytjkfnjjkjhggfaa
open Go.RowKit

theorem Fr.two {r : Nat} {W w : World} {x y : Nat × List Value} {L : List (Nat × List Value)} (h : Fr r W w (x :: y :: L)) : Fr r W w (y :: x :: L) := h.sub fun p hp => by
  simp only [List.mem_cons] at hp ⊢
  rcases hp with h | h | h <;> simp [h]
theorem frsh_off {w : World} {v u : Value} {n : Nat} (hf : Frsh w v u) (hv : v.ownBlock ≠ some n) (hn : n < w.heap.size) : u.ownBlock ≠ some n := fun e => by
  rcases hf with h | ⟨g, h, hg⟩
  · rw [h] at e; exact hv e
  · rw [h] at e; injection e with e; omega
/-- A path at most four long; of small houses, if it starts at one. -/
def L4h (h : Int) (P : List Int) : Prop := P.length ≤ 4 ∧ (Bts h 1 5 → L4 P)
set_option maxRecDepth 100000 in
set_option maxHeartbeats 4000000 in
theorem l92From_gen (r k : Nat) (h : Int) (w : World) (hR : Rd w r k) (hk : k ≤ 600000) :
    Calls Try.prog 44 #[.pointer (some ⟨r, 0, none⟩), .int .i64 h] w fun e w' => ∃ (f b lk : Int) (pv mv : Value) (P M : List Int), e = .returned (.agg #[.int .i64 f, .int .i64 b, pv, .int .i64 lk, mv]) ∧ Lies w' w.heap.size pv P ∧ Lies w' w.heap.size mv M ∧ L4h h P ∧ M.length ≤ 10 ∧ -10 ≤ lk ∧ (lk ≤ 20 ∧ SmR f b) ∧ (∃ k', k' ≤ k + 100 ∧ Rd w' r k') ∧ Kp r w w' := by
  have hr := hR.lt
  have hF := (Fr.start r w).alloc [.int .i64 0, .int .i64 0, .slice none 0 0, .int .i64 0, .slice none 0 0] 64 hr
  replace hR := hR.alloc (.cells #[.int .i64 0, .int .i64 0, .slice none 0 0, .int .i64 0, .slice none 0 0] 64)
  obtain ⟨n2, hn2⟩ : ∃ n, w.heap.size = n := ⟨_, rfl⟩
  rw [hn2] at hF hr
  go_enter Try.func44, Try.ntmps44
  go_wp2_with fail
  refine (l91Range_any r _ _ hR (by omega)).mono ?_; rintro e w1 ⟨f, b, rfl, f1, f2, f3, f4, ⟨k1, hk1, hR1⟩, hK1⟩
  have HFB : Hid (SmR f b) := ⟨by omega, by omega, by omega, by omega⟩
  clear f1 f2 f3 f4
  replace hF := (hF.call hK1).other (.cells #[.int .i64 h] 3)
  have hs1 := hK1.size
  simp only [World.size_alloc, hn2] at hs1
  have hP : Own 3 (w1.alloc (.cells #[.int .i64 h] 3)) (n2 + 1) (.slice (some ⟨w1.heap.size, 0, none⟩) 1 1) 1 encI [h] := Own.lit 3 w1 (n2 + 1) 1 encI [h] (fun _ => rfl) (by omega) (by simp)
  replace hR1 := hR1.alloc (.cells #[.int .i64 h] 3)
  obtain ⟨g1, hg1⟩ : ∃ n, w1.heap.size = n := ⟨_, rfl⟩
  rw [hg1] at hP hs1
  clear hR hK1
  go_wp2_with fail
  refine (pick_any r _ _ _ hR1 (by omega) (by omega) (by omega)).mono ?_; rintro e w3 ⟨lk, rfl, u3, l3, hR3, hK3⟩
  replace hF := hF.call hK3
  replace hP := hP.kp hK3 (by omega)
  have hs3 := hK3.size
  simp only [World.size_alloc] at hs3
  clear hR1 hK3
  go_wp2_with fail
  refine (l91Marks_any r _ _ hR3 (by omega)).mono ?_; rintro e w4 ⟨mv, M, rfl, hM, hM9, ⟨k4, hk4, hR4⟩, hK4⟩
  have hpl := hP.lt
  replace hF := hF.call hK4
  replace hP := hP.kp hK4 (by omega)
  have hs4 := hK4.size
  have hA : Apart (.slice (some ⟨g1, 0, none⟩) 1 1) mv := fun g h1 h2 => by have := hpl g h1; have := hM.ge g h2; omega
  replace hM := Own.base (B := n2 + 1) hM (by omega)
  clear hR3 hK4 hpl
  obtain ⟨o2, c2, rfl⟩ := hM.sl
  obtain ⟨m, hm⟩ : ∃ m, Hid (M.length = m) := ⟨_, rfl⟩
  rw [hm.out] at hM hM9 hA ⊢
  have hpl := hP.lt
  have hml := hM.lt
  replace hF := hF.alloc [.int .i64 f, .int .i64 b, .slice (some ⟨g1, 0, none⟩) 1 1, .int .i64 lk, .slice o2 m c2] 64 hR4.lt
  replace hR4 := hR4.alloc (.cells #[.int .i64 f, .int .i64 b, .slice (some ⟨g1, 0, none⟩) 1 1, .int .i64 lk, .slice o2 m c2] 64)
  replace hP := hP.alloc (.cells #[.int .i64 f, .int .i64 b, .slice (some ⟨g1, 0, none⟩) 1 1, .int .i64 lk, .slice o2 m c2] 64)
  replace hM := hM.alloc (.cells #[.int .i64 f, .int .i64 b, .slice (some ⟨g1, 0, none⟩) 1 1, .int .i64 lk, .slice o2 m c2] 64)
  obtain ⟨n3, hn3⟩ : ∃ n, w4.heap.size = n := ⟨_, rfl⟩
  rw [hn3] at hF hpl hml
  have hp3 : (Value.slice (some ⟨g1, 0, none⟩) 1 1).ownBlock ≠ some n3 := fun e => by have := hpl _ e; omega
  have hm3 : (Value.slice o2 m c2).ownBlock ≠ some n3 := fun e => by have := hml _ e; omega
  have hH : Hid (L4h h [h]) := ⟨by simp, fun hh => ⟨by simp, fun y hy => by rw [List.mem_singleton.1 hy]; exact hh⟩⟩
  have h32 : n2 < n3 := by omega
  clear hpl hml
  have o := hF.own; simp only [World.size_alloc, World.size_drew, World.size_setCell, List.mem_cons, List.not_mem_nil, or_false, forall_eq_or_imp, forall_eq, At, and_true, Nat.zero_add, Nat.reduceAdd, List.set_cons_zero, List.set_cons_succ] at o
  go_wp2_with fail
  refine (sRangeOk_any f b _).mono ?_; rintro e w6 ⟨rfl, hb6⟩
  obtain ⟨bo, hbo⟩ : ∃ bo, decide (ROk f b) = bo := ⟨_, rfl⟩
  rw [hbo]
  clear hbo
  replace hF := hF.below hb6
  replace hP := hP.below hb6
  replace hM := hM.below hb6
  replace hR4 := hR4.below hb6 hR4.lt
  have hs6 := hb6.size
  simp only [World.size_alloc] at hs6
  clear hb6 o
  have o := hF.own; simp only [World.size_alloc, World.size_drew, World.size_setCell, List.mem_cons, List.not_mem_nil, or_false, forall_eq_or_imp, forall_eq, At, and_true, Nat.zero_add, Nat.reduceAdd, List.set_cons_zero, List.set_cons_succ] at o
  go_upto_if 20 with (fail)
  go_cut [5] (fun s5 wx => ∃ f' b' : Int, s5 = .pointer (some ⟨n3, 0, none⟩) ∧ Hid (SmR f' b') ∧ n3 < wx.heap.size ∧ Own 3 wx (n2 + 1) (.slice (some ⟨g1, 0, none⟩) 1 1) 1 encI [h] ∧ Own 3 wx (n2 + 1) (.slice o2 m c2) 1 encI M ∧ Rd wx r k4 ∧ Fr r w wx [(n3, [.int .i64 f', .int .i64 b', (.slice (some ⟨g1, 0, none⟩) 1 1), .int .i64 lk, .slice o2 m c2]), (n2, [.int .i64 0, .int .i64 0, .slice none 0 0, .int .i64 0, .slice none 0 0])])
  case first =>
    cases bo with
    | true =>
      go_wp2_with fail
      go_meet
      case rel => exact ⟨f, b, rfl, HFB, by omega, hP, hM, hR4, hF⟩
    | false =>
      go_wp2_with fail
      go_meet
      case rel => exact ⟨0, 1, rfl, ⟨by omega, by omega, by omega, by omega⟩, by simp only [World.size_setCell]; omega, (hP.put' (E' := 3) (p := ⟨n3, 0, none⟩) hp3 _).put' (E' := 3) (p := ⟨n3, 1, none⟩) hp3 _, (hM.put' (E' := 3) (p := ⟨n3, 0, none⟩) hm3 _).put' (E' := 3) (p := ⟨n3, 1, none⟩) hm3 _, (hR4.setCell (p := ⟨n3, 0, none⟩) (by dsimp only; omega) _).setCell (p := ⟨n3, 1, none⟩) (by dsimp only; omega) _, (hF.set 0 _ (by simp) (by simp; omega)).set 1 _ (by simp) (by simp; omega)⟩
  case rest =>
    clear hF hP hM hR4 o
    obtain ⟨f', b', rfl, HS1, hs7, hP, hM, hR4, hF⟩ := hcut
    have o := hF.own; simp only [World.size_alloc, World.size_drew, World.size_setCell, List.mem_cons, List.not_mem_nil, or_false, forall_eq_or_imp, forall_eq, At, and_true, Nat.zero_add, Nat.reduceAdd, List.set_cons_zero, List.set_cons_succ] at o
    go_wp2_with fail
    refine (pick_any r _ _ _ hR4 (by omega) (by omega) (by omega)).mono ?_; rintro e w8 ⟨v8, rfl, x8, l8, hR8, hK8⟩
    replace hF := hF.call hK8
    replace hP := hP.kp hK8 (by omega)
    replace hM := hM.kp hK8 (by omega)
    have hs8 := hK8.size
    clear hK8 hR4 o
    have o := hF.own; simp only [World.size_alloc, World.size_drew, World.size_setCell, List.mem_cons, List.not_mem_nil, or_false, forall_eq_or_imp, forall_eq, At, and_true, Nat.zero_add, Nat.reduceAdd, List.set_cons_zero, List.set_cons_succ] at o
    obtain ⟨bo2, hbo2⟩ : ∃ bo, (v8 == 0) = bo := ⟨_, rfl⟩
    go_upto_if 25 with (fail)
    clear hbo2
    go_cut [5] (fun s5 wx => ∃ (f' b' : Int) (k5 : Nat), k5 ≤ k4 + 2 ∧ s5 = .pointer (some ⟨n3, 0, none⟩) ∧ Hid (SmR f' b') ∧ n3 < wx.heap.size ∧ Own 3 wx (n2 + 1) (.slice (some ⟨g1, 0, none⟩) 1 1) 1 encI [h] ∧ Own 3 wx (n2 + 1) (.slice o2 m c2) 1 encI M ∧ Rd wx r (k5) ∧ Fr r w wx [(n3, [.int .i64 f', .int .i64 b', (.slice (some ⟨g1, 0, none⟩) 1 1), .int .i64 lk, .slice o2 m c2]), (n2, [.int .i64 0, .int .i64 0, .slice none 0 0, .int .i64 0, .slice none 0 0])])
    case first =>
      cases bo2 with
      | true =>
        go_wp2_with fail
        refine (pick_any r _ _ _ hR8 (by omega) (by omega) (by omega)).mono ?_; rintro e w9 ⟨v9, rfl, x9, l9, hR9, hK9⟩
        replace hF := hF.call hK9
        replace hP := hP.kp hK9 (by omega)
        replace hM := hM.kp hK9 (by omega)
        have hs9 := hK9.size
        clear hK9 o
        have o := hF.own; simp only [World.size_alloc, World.size_drew, World.size_setCell, List.mem_cons, List.not_mem_nil, or_false, forall_eq_or_imp, forall_eq, At, and_true, Nat.zero_add, Nat.reduceAdd, List.set_cons_zero, List.set_cons_succ] at o
        have hw : IntKind.i64.wrap (32 * v9) = 32 * v9 := IntWalk.i64_in _ (by omega)
        go_wp2_with fail
        go_meet
        case rel => exact ⟨32 * v9, 3, k4 + 1 + 1, by omega, rfl, ⟨by omega, by omega, by omega, by omega⟩, by simp only [World.size_setCell]; omega, (hP.put' (E' := 3) (p := ⟨n3, 0, none⟩) hp3 _).put' (E' := 3) (p := ⟨n3, 1, none⟩) hp3 _, (hM.put' (E' := 3) (p := ⟨n3, 0, none⟩) hm3 _).put' (E' := 3) (p := ⟨n3, 1, none⟩) hm3 _, (hR9.setCell (p := ⟨n3, 0, none⟩) (by dsimp only; omega) _).setCell (p := ⟨n3, 1, none⟩) (by dsimp only; omega) _, (hF.set 0 _ (by simp) (by simp; omega)).set 1 _ (by simp) (by simp; omega)⟩
      | false =>
        go_wp2_with fail
        go_meet
        case rel => exact ⟨f', b', k4 + 1, by omega, rfl, HS1, by omega, hP, hM, hR8, hF⟩
    case rest =>
      clear hF hP hM hR8 o HS1
      obtain ⟨f', b', k5, hk5, rfl, HS1, hs9, hP, hM, hR4, hF⟩ := hcut
      have o := hF.own; simp only [World.size_alloc, World.size_drew, World.size_setCell, List.mem_cons, List.not_mem_nil, or_false, forall_eq_or_imp, forall_eq, At, and_true, Nat.zero_add, Nat.reduceAdd, List.set_cons_zero, List.set_cons_succ] at o
      go_wp2_with fail
      refine (pick_any r _ _ _ hR4 (by omega) (by omega) (by omega)).mono ?_; rintro e w10 ⟨v10, rfl, x10, l10, hR10, hK10⟩
      replace hF := hF.call hK10
      replace hP := hP.kp hK10 (by omega)
      replace hM := hM.kp hK10 (by omega)
      have hs10 := hK10.size
      obtain ⟨q0, rfl⟩ := Int.eq_ofNat_of_zero_le x10
      clear hK10 hR4 o
      go_wp2_with fail
      go_loopw [6] (fun s6 wr => ∃ (q k' : Nat) (pv : Value) (P : List Int), s6 = .int .i64 q ∧ P.length + q ≤ 1 + q0 ∧ k' + q ≤ k5 + 1 + q0 ∧ Hid (L4h h P) ∧ Apart pv (.slice o2 m c2) ∧ pv.ownBlock ≠ some n3 ∧ n3 < wr.heap.size ∧ Own 3 wr (n2 + 1) pv 1 encI P ∧ Own 3 wr (n2 + 1) (.slice o2 m c2) 1 encI M ∧ Rd wr r (k') ∧ Fr r w wr [(n3, [.int .i64 f', .int .i64 b', pv, .int .i64 lk, .slice o2 m c2]), (n2, [.int .i64 0, .int .i64 0, .slice none 0 0, .int .i64 0, .slice none 0 0])]) (fun s6 _ => (intOf s6).toNat)
      case atStart => exact ⟨q0, k5 + 1, _, [h], rfl, by simp, by omega, hH, hA, hp3, by omega, hP, hM, hR10, hF⟩
      case round =>
        clear hF hP hM hR10 hA hp3 hH
        obtain ⟨q, k', pv, P, rfl, hq, hk', hH, hA, hp3, hsz, hP, hM, hR, hF⟩ := hrel
        obtain ⟨ap, cp, rfl⟩ := hP.sl
        have o := hF.own; simp only [World.size_alloc, World.size_drew, World.size_setCell, List.mem_cons, List.not_mem_nil, or_false, forall_eq_or_imp, forall_eq, At, and_true, Nat.zero_add, Nat.reduceAdd, List.set_cons_zero, List.set_cons_succ] at o
        by_cases hlt : 0 < q
        · have hlt' : 0 < (q : Int) := by omega
          go_wp2_with fail
          refine (pick_any r _ _ _ hR (by omega) (by omega) (by omega)).mono ?_; rintro e w11 ⟨v11, rfl, x11, l11, hR11, hK11⟩
          replace hF := hF.call hK11
          replace hP := hP.kp hK11 (by omega)
          replace hM := hM.kp hK11 (by omega)
          have hs11 := hK11.size
          clear hK11 hR o
          have o := hF.own; simp only [World.size_alloc, World.size_drew, World.size_setCell, List.mem_cons, List.not_mem_nil, or_false, forall_eq_or_imp, forall_eq, At, and_true, Nat.zero_add, Nat.reduceAdd, List.set_cons_zero, List.set_cons_succ] at o
          go_wp2_with fail
          obtain ⟨h2, hh2⟩ : ∃ h : Int, 1 + v11 = h := ⟨_, rfl⟩
          rw [hh2]
          have hB : Bts h2 1 5 := by unfold Bts; omega
          clear x11 l11 hh2
          refine (l3Has_any _ _ _ _ hP.ints).mono ?_; rintro e w12 ⟨rfl, hb12⟩
          replace hR := hR11.below hb12 hR11.lt
          replace hF := hF.below hb12
          replace hP := hP.below hb12
          replace hM := hM.below hb12
          have hs12 := hb12.size
          clear hb12 o hR11
          have o := hF.own; simp only [World.size_alloc, World.size_drew, World.size_setCell, List.mem_cons, List.not_mem_nil, or_false, forall_eq_or_imp, forall_eq, At, and_true, Nat.zero_add, Nat.reduceAdd, List.set_cons_zero, List.set_cons_succ] at o
          by_cases hin : h2 ∈ P
          · have d : decide (h2 ∈ P) = true := by simp [hin]
            clear hin hB
            go_wp2_with fail
            go_roundw
            case rel => exact ⟨q - 1, k' + 1, _, P, by go_num, by omega, by omega, hH, hA, hp3, by omega, hP, hM, hR, hF⟩
            case measure => simp [intOf]; omega
          · have d : decide (h2 ∈ P) = false := by simp [hin]
            have hH2 : Hid (L4h h (P ++ [h2])) := ⟨by simp; omega, fun hh => ⟨by simp; omega, fun y hy => by
              rcases List.mem_append.1 hy with g | g
              · exact (hH.out.2 hh).2 y g
              · rw [List.mem_singleton.1 g]; exact hB⟩⟩
            clear hin hB
            have hml := hM.lt
            go_wp2_with ((at_builtin; refine wpList_app rfl _ _ 40 rfl 3 (.int .i64 0) 1 8 Try.underlying40 infoInt rfl (by decide) (by decide) (n2 + 1) encI _ _ rfl (hP.alloc _) (h2) ⟨_, 0, none⟩ 1 rfl rfl (cells_new _ _ _) (by simp [encI, Value.oneCell']) (by omega) (by simp only [World.size_alloc]; omega) ?_; intro v' wx hO1 hg1 hb1 hf1; (obtain ⟨aq, cq, rfl⟩ := hO1.sl; obtain ⟨nq, hnq⟩ : ∃ nq, Hid ((P ++ [h2]).length = nq) := ⟨_, rfl⟩; rw [hnq.out] at hO1 hf1 ⊢; have hsz9 := hb1.size; simp only [World.size_alloc] at hsz9; replace hR := (hR.alloc _).below hb1 (by omega); replace hF := Fr.grown (hF.other _) hg1 (fun g hg => by have := hP.ge g hg; omega) (fun p hp e => by have := hP.ge _ e; simp only [List.mem_cons, List.not_mem_nil, or_false] at hp; rcases hp with rfl | rfl; exact hp3 e; simp at this <;> omega); replace hM := (hM.alloc _).grown hg1 hA.symm; replace hA := Apart.frsh' hA hf1 (fun g hg => by have := hml g hg; simp only [World.size_alloc]; omega); replace hp3 := frsh_off hf1 hp3 (by simp only [World.size_alloc]; omega); clear hg1 hb1 hf1 o; have o := hF.own; simp only [World.size_alloc, World.size_drew, World.size_setCell, List.mem_cons, List.not_mem_nil, or_false, forall_eq_or_imp, forall_eq, At, and_true, Nat.zero_add, Nat.reduceAdd, List.set_cons_zero, List.set_cons_succ] at o)))
            replace hP := hO1.put' (E' := 3) (p := ⟨n3, 2, none⟩) hp3 (.slice aq nq cq)
            replace hM := hM.put' (E' := 3) (p := ⟨n3, 2, none⟩) hm3 (.slice aq nq cq)
            replace hR := hR.setCell (p := ⟨n3, 2, none⟩) (by dsimp only; omega) (.slice aq nq cq)
            replace hF := hF.set 2 (.slice aq nq cq) (by simp) (by simp; omega)
            go_roundw
            case rel => exact ⟨q - 1, k' + 1, _, P ++ [h2], by go_num, by simp; omega, by omega, hH2, hA, hp3, by simp only [World.size_setCell]; omega, hP, hM, hR, hF⟩
            case measure => simp [intOf]; omega
        · have hlt' : ¬ 0 < (q : Int) := by omega
          have hP9 : Rw wr n2 n3 (.slice ap P.length cp) P := ⟨hP.it, fun g hg => by
            have := hP.ge g hg
            exact ⟨by omega, fun e => hp3 (by rw [hg, e])⟩, hP.lt⟩
          have hM9' : Rw wr n2 n3 (.slice o2 m c2) M := ⟨hM.it, fun g hg => by
            have := hM.ge g hg
            exact ⟨by omega, fun e => hm3 (by rw [hg, e])⟩, hM.lt⟩
          go_wp2_with fail
          obtain ⟨wz, hwz, e1, e2, e3, e4⟩ := endR (u0 := .int .i64 f') (u1 := .int .i64 b') (u3 := .int .i64 lk) hF.rest hR hP9 hM9' hr
          rw [← hwz]
          clear hwz
          have o := e1.own; simp only [World.size_alloc, World.size_drew, World.size_setCell, List.mem_cons, List.not_mem_nil, or_false, forall_eq_or_imp, forall_eq, At, and_true, Nat.zero_add, Nat.reduceAdd, List.set_cons_zero, List.set_cons_succ] at o
          refine bodyPost_ret (v := .agg #[.int .i64 f', .int .i64 b', .slice ap P.length cp, .int .i64 lk, .slice o2 m c2]) ?_ rfl ?_
          · simp [results, Try.results44, go_sem, o]
          · clear o
            exact ⟨f', b', lk, (.slice ap P.length cp), (.slice o2 m c2), rfl, P, by first | exact e3 | (rw [hn2]; exact e3), M, by first | exact e4 | (rw [hn2]; exact e4), hH.out, by have := hm.out; omega, by omega, ⟨by omega, HS1.out⟩, ⟨k', by omega, e2⟩, e1.kp⟩
theorem l92From_any (r k : Nat) (h : Int) (w : World) (hR : Rd w r k) (hk : k ≤ 600000) (hh : Bts h 1 5) :
    Calls Try.prog 44 #[.pointer (some ⟨r, 0, none⟩), .int .i64 h] w fun e w' => ∃ (f b lk : Int) (pv mv : Value) (P M : List Int), e = .returned (.agg #[.int .i64 f, .int .i64 b, pv, .int .i64 lk, mv]) ∧ Lies w' w.heap.size pv P ∧ Lies w' w.heap.size mv M ∧ L4 P ∧ M.length ≤ 10 ∧ -10 ≤ lk ∧ (lk ≤ 20 ∧ SmR f b) ∧ (∃ k', k' ≤ k + 100 ∧ Rd w' r k') ∧ Kp r w w' :=
  (l92From_gen r k h w hR hk).mono fun _ _ ⟨f, b, lk, pv, mv, P, M, e1, e2, e3, e4, e5⟩ => ⟨f, b, lk, pv, mv, P, M, e1, e2, e3, e4.2 hh, e5⟩
end Go.Proofs.Ytjkfnjjkjhggfaa
set_option linter.unusedSimpArgs false
set_option linter.unusedVariables false
namespace Go.Proofs.Ytjkfnjjkjhggfaa
open Go.RowKit

def rcS (s t : Rt) : Int := rcmp s.1 s.2.1 t.1 t.2.1
def RsStep (L : List Rt) (k : Nat) : Prop := ROkS (rat L k) ∧ (0 < k → rcS (rat L (k - 1)) (rat L k) < 0)
instance (L : List Rt) (k : Nat) : Decidable (RsStep L k) := by unfold RsStep; infer_instance
/-- Routes stand by range, each once, and are not too many. -/
def RsOk (L : List Rt) : Prop := L.length ≤ 12 ∧ ∀ k, k < L.length → RsStep L k
instance (L : List Rt) : Decidable (RsOk L) := by unfold RsOk; infer_instance
theorem rs_no {L : List Rt} {n k : Nat} (hn : L.length = n) (hk : k < n) (h : ¬ RsStep L k) : decide (RsOk L) = false := decide_eq_false fun g => h (g.2 k (by omega))
theorem rs_yes {L : List Rt} {n : Nat} (hn : L.length = n) (h12 : n ≤ 12) (h : ∀ j, j < n → RsStep L j) : decide (RsOk L) = true := decide_eq_true ⟨by omega, fun k hk => h k (by omega)⟩
theorem rs_long {L : List Rt} {n : Nat} (hn : L.length = n) (h12 : ¬ n ≤ 12) : decide (RsOk L) = false := decide_eq_false fun g => h12 (by rw [← hn]; exact g.1)
theorem rs_go {L : List Rt} {k : Nat} (h : ∀ j, j < k → RsStep L j) (hs : RsStep L k) : ∀ j, j < k + 1 → RsStep L j := fun j hj => by
  by_cases e : j = k
  · rw [e]; exact hs
  · exact h j (by omega)
theorem rs_0 {L : List Rt} {s : Rt} (h : L[0]? = some s) : RsStep L 0 ↔ ROkS s := by
  unfold RsStep; rw [rat_of h]
  exact ⟨fun g => g.1, fun g => ⟨g, fun e => by omega⟩⟩
theorem rs_s {L : List Rt} {k : Nat} {s t : Rt} (hk : 0 < k) (ht : L[k - 1]? = some t) (h : L[k]? = some s) : RsStep L k ↔ ROkS s ∧ rcS t s < 0 := by
  unfold RsStep; rw [rat_of h, rat_of ht]
  exact ⟨fun g => ⟨g.1, g.2 hk⟩, fun g => ⟨g.1, fun _ => g.2⟩⟩
theorem rs_r {L : List Rt} {k : Nat} {s : Rt} (h : L[k]? = some s) (g : RsStep L k) : ROkS s := by
  have := g.1; rwa [rat_of h] at this
theorem rc_lt {f b g c : Int} : rcmp f b g c < 0 ↔ f < g ∨ f = g ∧ b < c := by unfold rcmp icmp; (repeat' split) <;> omega
theorem rcS_trans {s t u : Rt} (h1 : rcS s t < 0) (h2 : rcS t u < 0) : rcS s u < 0 := by
  unfold rcS at *
  rw [rc_lt] at *
  omega
theorem rcS_self (s : Rt) : rcS s s = 0 := by unfold rcS rcmp icmp; (repeat' split) <;> omega
theorem rs_pair {L : List Rt} : (∀ k, k < L.length → RsStep L k) ↔ (∀ s ∈ L, ROkS s) ∧ L.Pairwise (fun s t => rcS s t < 0) := by
  constructor
  · intro h
    refine ⟨fun s hs => ?_, List.pairwise_iff_getElem.2 fun i j hi hj hij => ?_⟩
    · obtain ⟨i, hi⟩ := List.mem_iff_getElem?.1 hs
      exact rs_r hi (h i (List.getElem?_eq_some_iff.1 hi).1)
    · induction j with
      | zero => omega
      | succ j ih =>
        have h1 := ((rs_s (by omega) (List.getElem?_eq_getElem (show j + 1 - 1 < L.length by omega)) (List.getElem?_eq_getElem hj)).1 (h (j + 1) hj)).2
        simp only [Nat.add_sub_cancel] at h1
        by_cases e : i = j
        · subst e; exact h1
        · exact rcS_trans (ih (by omega) (by omega)) h1
  · rintro ⟨h1, h2⟩ k hk
    refine ⟨by rw [rat_of (List.getElem?_eq_getElem hk)]; exact h1 _ (List.getElem_mem hk), fun h0 => ?_⟩
    rw [rat_of (List.getElem?_eq_getElem hk), rat_of (List.getElem?_eq_getElem (show k - 1 < L.length by omega))]
    exact List.pairwise_iff_getElem.1 h2 (k - 1) k (by omega) hk (by omega)
theorem rs_less {L : List Rt} (h : RsOk L) (k : Nat) : RsOk (L.take k ++ L.drop (k + 1)) := by
  obtain ⟨h1, h2⟩ := h
  rw [rs_pair] at h2
  have hs : (L.take k ++ L.drop (k + 1)).Sublist L := by
    have : (L.take k ++ L.drop (k + 1)).Sublist (L.take k ++ L.drop k) := List.Sublist.append_left (by
      rw [show k + 1 = k + 1 from rfl, ← List.drop_drop]
      exact List.drop_sublist ..) _
    rwa [List.take_append_drop] at this
  exact ⟨Nat.le_trans hs.length_le h1, rs_pair.2 ⟨fun s m => h2.1 s (hs.subset m), h2.2.sublist hs⟩⟩
theorem rs_twice {L : List Rt} {k : Nat} (hk : k < L.length) : ¬ RsOk (L.take (k + 1) ++ L.drop k) := fun h => by
  have h2 := h.2 (k + 1) (by simp; omega)
  have e1 : (L.take (k + 1) ++ L.drop k)[k]? = some L[k] := by
    rw [List.getElem?_append_left (by simp; omega), List.getElem?_take, if_pos (by omega)]; exact List.getElem?_eq_getElem hk
  have e2 : (L.take (k + 1) ++ L.drop k)[k + 1]? = some L[k] := by
    rw [List.getElem?_append_right (by simp; omega), List.getElem?_drop]
    rw [show k + (k + 1 - (L.take (k + 1)).length) = k by simp; omega]
    exact List.getElem?_eq_getElem hk
  have := ((rs_s (L := L.take (k + 1) ++ L.drop k) (by omega) (by simpa using e1) e2).1 h2).2
  rw [rcS_self] at this
  omega
set_option maxHeartbeats 4000000 in
theorem sRoutesOk_any (v : Value) (L : List Rt) (w : World) (hv : Rts w v L) :
    Calls Try.prog 42 #[v] w fun e w' => e = .returned (.bool (decide (RsOk L))) ∧ Below w.heap.size w w' := by
  have hF := Fb.start w
  obtain ⟨ao, n, cap, rfl, hn, hnc, hcap⟩ := GLs.sl hv
  have HV := Lib.hid hv
  clear hv
  go_enter Try.func42, Try.ntmps42
  go_wp2
  go_loopw [3] (fun s3 wr => ∃ k : Nat, k ≤ n ∧ s3 = .int .i64 k ∧ Hid (∀ j, j < k → RsStep L j) ∧ Fb w wr []) (fun i _ => n - (intOf i).toNat)
  case atStart => exact ⟨0, Nat.zero_le _, rfl, fun s h => (by omega), hF⟩
  case round =>
    clear hF
    obtain ⟨k, hk, rfl, hz, hF⟩ := hrel
    by_cases hlt : k < n
    · obtain ⟨b1, p1, rfl⟩ := GLs.adr HV.out (by omega)
      obtain ⟨s, hs⟩ := get_of hn.out hlt
      have HS := Lib.hid hs
      obtain ⟨f, b, lk, P, M⟩ := s
      obtain ⟨a1, m1, c1, a2, m2, c2, e0, e1, e2, e3, e4, i1, i2⟩ := Rts.at HV.out hs
      clear hs
      have x0 := fun z : Cl wr.heap.size wr => Cl.old hF z e0
      have x1 := fun z : Cl wr.heap.size wr => Cl.old hF z e1
      have x2 := fun z : Cl wr.heap.size wr => Cl.old hF z e2
      have x3 := fun z : Cl wr.heap.size wr => Cl.old hF z e3
      have x4 := fun z : Cl wr.heap.size wr => Cl.old hF z e4
      by_cases hq : RtOk f b P lk M
      · have cO := Lib.hid (fun z : Cl wr.heap.size wr => (show Calls Try.prog 50 #[.agg #[.int .i64 f, .int .i64 b, .slice a1 m1 c1, .int .i64 lk, .slice a2 m2 c2]] z.W fun e w' => e = .returned (.bool true) ∧ Below z.W.heap.size z.W w' from by have := sRouteOk_any f b lk _ _ P M z.W (Rows.below i1 (hF.cl z).kp) (Rows.below i2 (hF.cl z).kp); rwa [decide_eq_true hq] at this))
        clear e0 e1 e2 e3 e4 i1 i2
        by_cases h0 : k = 0
        · subst h0
          have hA : Hid (∀ j, j < 0 + 1 → RsStep L j) := rs_go hz.out ((rs_0 HS.out).2 hq)
          simp only [Nat.zero_mul, Nat.add_zero] at x0 x1 x2 x3 x4
          clear hq hz
          go_wp2
          first | refine wp_region_new (by kernel_rfl) (by kernel_rfl) ?_ | refine wp_region_lex ?_
          repeat (any_goals (first | go_big_quiet_step (((go_at_call 50; exact Calls.cl (cO.out _)))) | (refine wpQuiet_step (fun K hK => ?_); go_simp; split <;> (rename_i hg; refine hK _ ?_; clear hK K; simp only [hg, decide_true, decide_false]))))
          all_goals (refine wpQuiet_nil ?_; intro x)
          go_wp2
          go_roundw
          case rel => exact ⟨1, by omega, by go_num, hA, hF.cl ‹_›⟩
          case measure => simp [intOf]; omega
        · obtain ⟨t, ht⟩ := get_of hn.out (show k - 1 < n by omega)
          have HT := Lib.hid ht
          obtain ⟨g, c, l2, P2, M2⟩ := t
          obtain ⟨a3, m3, c3, a4, m4, c4, g0, g1, -, -, -, -, -⟩ := Rts.at HV.out ht
          have y0 := fun z : Cl wr.heap.size wr => Cl.old hF z g0
          have y1 := fun z : Cl wr.heap.size wr => Cl.old hF z g1
          obtain ⟨N, hN⟩ : ∃ N, rcmp g c f b = N := ⟨_, rfl⟩
          have cC := Lib.hid (fun z : Cl wr.heap.size wr => (show Calls Try.prog 51 #[.agg #[.int .i64 g, .int .i64 c], .agg #[.int .i64 f, .int .i64 b]] z.W fun e w' => e = .returned (.int .i64 N) ∧ Below z.W.heap.size z.W w' from by have := l1Cmp_any g c f b z.W; rwa [hN] at this))
          have HN := Lib.hid hN
          have HQ := Lib.hid hq
          have k1 : ((k : Int) - 1).toNat = k - 1 := by omega
          have k2 : IntKind.i64.wrap ((k : Int) - 1) = (k : Int) - 1 := IntWalk.i64_in _ (by omega)
          have k3 : (1 : Int) ≤ (k : Int) := by omega
          have k4 : (k : Int) - 1 < (n : Int) := by omega
          have k5 : decide (0 < (k : Int)) = true := decide_eq_true (by omega)
          have k6 : decide (0 < k) = true := decide_eq_true (by omega)
          have k7 : (0 : Int) ≤ (k : Int) - 1 := by omega
          clear ht g0 g1 hN hq
          by_cases hlz : N < 0
          · have hA : Hid (∀ j, j < k + 1 → RsStep L j) := rs_go hz.out ((rs_s (by omega) HT.out HS.out).2 ⟨HQ.out, by unfold rcS; rw [show rcmp g c f b = N from HN.out]; exact hlz⟩)
            have dN : decide (0 ≤ N) = false := decide_eq_false (by omega)
            clear hlz
            go_wp2
            first | refine wp_region_new (by kernel_rfl) (by kernel_rfl) ?_ | refine wp_region_lex ?_
            repeat (any_goals (first | go_big_quiet_step ((first | (go_at_call 50; exact Calls.cl (cO.out _)) | (go_at_call 51; exact Calls.cl (cC.out _)))) | (refine wpQuiet_step (fun K hK => ?_); go_simp; split <;> (rename_i hg; refine hK _ ?_; clear hK K; simp only [hg, decide_true, decide_false]))))
            all_goals (refine wpQuiet_nil ?_; intro x)
            go_wp2
            go_roundw
            case rel => exact ⟨k + 1, by omega, by go_num, hA, hF.cl ‹_›⟩
            case measure => simp [intOf]; omega
          · have hr : Hid (decide (RsOk L) = false) := rs_no hn.out hlt (fun g9 => hlz (by have := ((rs_s (by omega) HT.out HS.out).1 g9).2; unfold rcS at this; rw [show rcmp g c f b = N from HN.out] at this; exact this))
            have dN : decide (0 ≤ N) = true := decide_eq_true (by omega)
            clear hlz
            go_wp2
            first | refine wp_region_new (by kernel_rfl) (by kernel_rfl) ?_ | refine wp_region_lex ?_
            repeat (any_goals (first | go_big_quiet_step ((first | (go_at_call 50; exact Calls.cl (cO.out _)) | (go_at_call 51; exact Calls.cl (cC.out _)))) | (refine wpQuiet_step (fun K hK => ?_); go_simp; split <;> (rename_i hg; refine hK _ ?_; clear hK K; simp only [hg, decide_true, decide_false]))))
            all_goals (refine wpQuiet_nil ?_; intro x)
            go_wp2
            go_ret
            exact ⟨by rw [hr.out]; rfl, (hF.cl ‹_›).kp⟩
      · have cO := Lib.hid (fun z : Cl wr.heap.size wr => (show Calls Try.prog 50 #[.agg #[.int .i64 f, .int .i64 b, .slice a1 m1 c1, .int .i64 lk, .slice a2 m2 c2]] z.W fun e w' => e = .returned (.bool false) ∧ Below z.W.heap.size z.W w' from by have := sRouteOk_any f b lk _ _ P M z.W (Rows.below i1 (hF.cl z).kp) (Rows.below i2 (hF.cl z).kp); rwa [decide_eq_false hq] at this))
        have hr : Hid (decide (RsOk L) = false) := rs_no hn.out hlt (fun g => hq (rs_r HS.out g))
        clear e0 e1 e2 e3 e4 i1 i2 hq
        go_wp2
        first | refine wp_region_new (by kernel_rfl) (by kernel_rfl) ?_ | refine wp_region_lex ?_
        repeat (any_goals (first | go_big_quiet_step (((go_at_call 50; exact Calls.cl (cO.out _)))) | (refine wpQuiet_step (fun K hK => ?_); go_simp; split <;> (rename_i hg; refine hK _ ?_; clear hK K; simp only [hg, decide_true, decide_false]))))
        all_goals (refine wpQuiet_nil ?_; intro x)
        go_wp2
        go_ret
        exact ⟨by rw [hr.out]; rfl, (hF.cl ‹_›).kp⟩
    · by_cases h12 : n ≤ 12
      · have d1 : decide ((n : Int) ≤ 12) = true := decide_eq_true (by omega)
        have hr : Hid (decide (RsOk L) = true) := rs_yes hn.out h12 (fun j hj => hz.out j (by omega))
        go_wp2
        go_ret
        exact ⟨by rw [hr.out]; first | rfl | (simp; omega), hF.kp⟩
      · have d1 : decide ((n : Int) ≤ 12) = false := decide_eq_false (by omega)
        have hr : Hid (decide (RsOk L) = false) := rs_long hn.out h12
        go_wp2
        go_ret
        exact ⟨by rw [hr.out]; first | rfl | (simp; omega), hF.kp⟩
end Go.Proofs.Ytjkfnjjkjhggfaa
