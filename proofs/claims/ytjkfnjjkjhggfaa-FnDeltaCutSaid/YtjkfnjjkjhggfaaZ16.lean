/- Routes drawn whose paths and marks can be copied. A change drawn: routes ahead of it and behind it. Ranges and entries compared; a slice compared with nil. -/
import Derived.Test.YtjkfnjjkjhggfaaZ15
import Derived.Test.YtjkfnjjkjhggfaaZ3
import Derived.Laws.StructEq
import Derived.Lib.SliceRun
set_option linter.unusedSimpArgs false
set_option linter.unusedVariables false
namespace Go.Proofs.Ytjkfnjjkjhggfaa
open Go.RowKit

/-- Routes, the rows of each of a form that a copy takes. -/
def shRi : Sh RtD Rt where
  sz := 5
  enc := encRt
  len _ := rfl
  pos := by decide
  subs d := [d.u, d.v]
  rd w d s := (d.f = s.1 ∧ d.b = s.2.1 ∧ d.lk = s.2.2.1) ∧ It w d.u s.2.2.2.1 ∧ It w d.v s.2.2.2.2
  keep hg hs h := ⟨h.1, ⟨Rows.far h.2.1.1 hg (hs _ (by simp)), h.2.1.2⟩, ⟨Rows.far h.2.2.1 hg (hs _ (by simp)), h.2.2.2⟩⟩
  one h u hu := by
    simp [encRt] at hu
    rcases hu with rfl | rfl | rfl | rfl | rfl
    · rfl
    · rfl
    · exact ints_one h.2.1.1
    · rfl
    · exact ints_one h.2.2.1
theorem GLs.rts {w : World} {v : Value} {L : List Rt} (h : GLs shRi w v L) : Rts w v L := by
  obtain ⟨ds, h1, h2, h3⟩ := h
  exact ⟨ds, h1, h2, fun k s hk => by obtain ⟨d, a, b⟩ := h3 k s hk; exact ⟨d, a, b.1, b.2.1.1, b.2.2.1⟩⟩
theorem go2_snocI {E : TypeId} {w0 w w' : World} {R B : Nat} {v v' : Value} {ds : List RtD} {L : List Rt} {d : RtD} {s : Rt} (h : GRel shRi w0 B w0.heap.size v ds L) (K : Below w0.heap.size w0 w) (hO : Own E w' R v' 5 encRt (ds ++ [d])) (hg : w.grownBy w' v.ownBlock) (hf : Frsh w v v') (hd : shRi.rd w d s) (hs : ∀ u ∈ shRi.subs d, Apart u v ∧ ∀ g, u.ownBlock = some g → B ≤ g ∧ g < w.heap.size) : GO2 shRi E w' R B v' (L ++ [s]) :=
  ⟨_, hO, GRel.snoc h (Nat.le_refl _) K hg hf hd hs⟩
/-- A route of a row, and where its path and marks lie. -/
theorem GOwn.rti {E : TypeId} {w : World} {B b off n cap : Nat} {L : List Rt} (h : GOwn shRi E w B (.slice (some ⟨b, off, none⟩) n cap) L) {k : Nat} {f c lk : Int} {P M : List Int} (hk : L[k]? = some (f, c, lk, P, M)) :
    ∃ a1 m1 c1 a2 m2 c2, (w.cell? ⟨b, off + k * 5, none⟩ = some (.int .i64 f) ∧ w.cell? ⟨b, off + k * 5 + 1, none⟩ = some (.int .i64 c) ∧ w.cell? ⟨b, off + k * 5 + 2, none⟩ = some (.slice a1 m1 c1) ∧ w.cell? ⟨b, off + k * 5 + 3, none⟩ = some (.int .i64 lk) ∧ w.cell? ⟨b, off + k * 5 + 4, none⟩ = some (.slice a2 m2 c2)) ∧ shRi.rd w ⟨f, c, lk, .slice a1 m1 c1, .slice a2 m2 c2⟩ (f, c, lk, P, M) ∧ ∀ u ∈ shRi.subs ⟨f, c, lk, .slice a1 m1 c1, .slice a2 m2 c2⟩, ∀ g, u.ownBlock = some g → B ≤ g ∧ g < w.heap.size := by
  obtain ⟨ds, h1, h2⟩ := h
  obtain ⟨d, e, hr, hs⟩ := h2.2 k _ hk
  have hc := fun j u hj => Rows.get (h1.rows shRi.len) e (j := j) (u := u) hj
  obtain ⟨df, db, dl, du, dv⟩ := d
  obtain ⟨⟨e1, e2, e3⟩, i1, i2⟩ := hr
  dsimp only at e1 e2 e3 i1 i2
  subst e1; subst e2; subst e3
  obtain ⟨a1, m1, c1, rfl, _⟩ := Ints.sl i1.1
  obtain ⟨a2, m2, c2, rfl, _⟩ := Ints.sl i2.1
  exact ⟨a1, m1, c1, a2, m2, c2, ⟨hc 0 _ rfl, hc 1 _ rfl, hc 2 _ rfl, hc 3 _ rfl, hc 4 _ rfl⟩, ⟨⟨rfl, rfl, rfl⟩, i1, i2⟩, fun u hu => (hs u hu).2⟩
set_option maxRecDepth 100000 in
set_option maxHeartbeats 4000000 in
theorem l23PutI_any (B : Nat) (v : Value) (L : List Rt) (g c l2 : Int) (pv mv : Value) (P M : List Int) (w : World) (hO : GOwn shRi 64 w B v L) (hB : B ≤ w.heap.size) (hi1 : It w pv P) (hi2 : It w mv M) (hL : L.length ≤ 100) (hs : ∀ s ∈ L, SmRt s) (hx : SmRt (g, c, l2, P, M)) :
    Calls Try.prog 43 #[v, .agg #[.int .i64 g, .int .i64 c, pv, .int .i64 l2, mv]] w fun e w' => ∃ u K, e = .returned u ∧ GOwn shRi 64 w' B u K ∧ K.length ≤ L.length + 1 ∧ (∀ s ∈ K, SmRt s) ∧ Below w.heap.size w w' := by
  have HX := Lib.hid hx
  have HX4 : Hid (P.length ≤ 1000 ∧ M.length ≤ 1000) := ⟨by have := hx.2.2.2.1.1; dsimp only at this; omega, by have := hx.2.2.2.2; dsimp only at this; omega⟩
  have HSm := Lib.hid hs
  have HO0 := Lib.hid hO
  obtain ⟨o1, c1, rfl, -⟩ := hi1.1.ex
  obtain ⟨o2, c2, rfl, -⟩ := hi2.1.ex
  obtain ⟨ao, n, cap, rfl, hn, hnc, hcap⟩ := GLs.sl hO.gls
  have hn1 : n ≤ 100 := by have := hn.out; omega
  have hF := ((Fb.start w).alloc [.int .i64 g, .int .i64 c, .slice o1 P.length c1, .int .i64 l2, .slice o2 M.length c2] 64).other (.cells #[] 64)
  have HI := Lib.hid (And.intro hi1 hi2)
  clear hO
  have hO : GO2 shRi 64 ((w.alloc (.cells #[.int .i64 g, .int .i64 c, .slice o1 P.length c1, .int .i64 l2, .slice o2 M.length c2] 64)).alloc (.cells #[] 64)) (w.heap.size + 1) B (.slice (some ⟨w.heap.size + 1, 0, none⟩) 0 0) [] := by
    have := GO2.made (S := shRi) 64 (w.alloc (.cells #[.int .i64 g, .int .i64 c, .slice o1 P.length c1, .int .i64 l2, .slice o2 M.length c2] 64)) (w.heap.size + 1) B (by simp)
    simpa only [World.size_alloc] using this
  obtain ⟨n1, hn1'⟩ : ∃ n, w.heap.size = n := ⟨_, rfl⟩
  have hsz : n1 + 1 ≤ ((w.alloc (.cells #[.int .i64 g, .int .i64 c, .slice o1 P.length c1, .int .i64 l2, .slice o2 M.length c2] 64)).alloc (.cells #[] 64)).heap.size := by simp only [World.size_alloc]; omega
  rw [hn1'] at hF hO hB
  have HN := Lib.hid hn1'
  clear hx hs hL hi1 hi2
  go_enter Try.func43, Try.ntmps43
  go_wp2
  go_loopw [5, 6, 7, 8] (fun s5 s6 s7 s8 wr => ∃ (k : Nat) (p : Bool) (K : List Rt), k ≤ n ∧ s7 = .int .i64 k ∧ s6 = .bool p ∧ K.length ≤ k + 1 ∧ Hid (p = false → K.length ≤ k) ∧ Hid (∀ s ∈ K, SmRt s) ∧ n1 + 1 ≤ wr.heap.size ∧ GO2 shRi 64 wr (n1 + 1) B s5 K ∧ Fb w wr [(n1, [.int .i64 g, .int .i64 c, .slice o1 P.length c1, .int .i64 l2, .slice o2 M.length c2])]) (fun _ _ s7 _ _ => n - (intOf s7).toNat)
  case atStart => exact ⟨0, false, [], Nat.zero_le _, rfl, rfl, by simp, fun _ => (by simp), fun s h => (by simp at h), hsz, hO, hF⟩
  case round =>
    clear hF hO hsz
    obtain ⟨k, p, K, hk, rfl, rfl, hK, hKp, hKs, hsz, hO, hF⟩ := hrel
    by_cases hlt : k < n
    · obtain ⟨b1, p1, rfl⟩ := GLs.adr HO0.out.gls (by omega)
      obtain ⟨s, hs⟩ := get_of hn.out hlt
      have HSS := Lib.hid (HSm.out s (List.mem_of_getElem? hs))
      obtain ⟨f, b, lk, P1, M1⟩ := s
      obtain ⟨a1, m1, k1, a2, m2, k2, ⟨e0, e1, e2, e3, e4⟩, hrd, hsub⟩ := GOwn.rti HO0.out hs
      have HRD := Lib.hid hrd
      have HSUB : Hid ((∀ g, (Value.slice a1 m1 k1).ownBlock = some g → B ≤ g ∧ g < n1) ∧ (∀ g, (Value.slice a2 m2 k2).ownBlock = some g → B ≤ g ∧ g < n1)) := ⟨fun g h => by have := hsub _ (List.mem_cons_self ..) g h; have := HN.out; omega, fun g h => by have := hsub _ (List.mem_cons_of_mem _ (List.mem_cons_self ..)) g h; have := HN.out; omega⟩
      clear hs hrd hsub
      have oc := fun x : Cl _ wr => (Fb.cl hF x).own; simp only [World.size_alloc, World.size_drew, World.size_setCell, List.mem_cons, List.not_mem_nil, or_false, forall_eq_or_imp, forall_eq, At, and_true, Nat.zero_add, Nat.reduceAdd, List.set_cons_zero, List.set_cons_succ] at oc
      have x0 := fun z : Cl wr.heap.size wr => Cl.old hF z e0
      have x1 := fun z : Cl wr.heap.size wr => Cl.old hF z e1
      obtain ⟨N, hN⟩ : ∃ N, rcmp f b g c = N := ⟨_, rfl⟩
      have cC := Lib.hid (fun z : Cl wr.heap.size wr => (show Calls Try.prog 51 #[.agg #[.int .i64 f, .int .i64 b], .agg #[.int .i64 g, .int .i64 c]] z.W fun e w' => e = .returned (.int .i64 N) ∧ Below z.W.heap.size z.W w' from by have := l1Cmp_any f b g c z.W; rwa [hN] at this))
      clear hN
      go_wp2
      first | refine wp_region_new (by kernel_rfl) (by kernel_rfl) ?_ | refine wp_region_lex ?_
      repeat (any_goals (first | go_big_quiet_step (((go_at_call 51; exact Calls.cl (cC.out _)))) | (refine wpQuiet_step (fun K hK => ?_); go_simp; split <;> (rename_i hg; refine hK _ ?_; clear hK K; simp only [hg, decide_true, decide_false]))))
      all_goals (refine wpQuiet_nil ?_; intro x)
      obtain ⟨wq, hbq⟩ := x
      have E4 := Lib.hid (⟨e0, e1, e2, e3, e4⟩ : w.cell? ⟨b1, p1 + k * 5, none⟩ = _ ∧ w.cell? ⟨b1, p1 + k * 5 + 1, none⟩ = _ ∧ w.cell? ⟨b1, p1 + k * 5 + 2, none⟩ = _ ∧ w.cell? ⟨b1, p1 + k * 5 + 3, none⟩ = _ ∧ w.cell? ⟨b1, p1 + k * 5 + 4, none⟩ = _)
      replace hF := hF.below hbq
      replace hO := hO.below hbq
      have hsq := hbq.size
      dsimp only
      clear e0 e1 e2 e3 e4 x0 x1 oc cC hbq
      have e0 := hF.old E4.out.1; have e1 := hF.old E4.out.2.1; have e2 := hF.old E4.out.2.2.1; have e3 := hF.old E4.out.2.2.2.1; have e4 := hF.old E4.out.2.2.2.2
      have o := hF.own; simp only [World.size_alloc, World.size_drew, World.size_setCell, List.mem_cons, List.not_mem_nil, or_false, forall_eq_or_imp, forall_eq, At, and_true, Nat.zero_add, Nat.reduceAdd, List.set_cons_zero, List.set_cons_succ] at o
      by_cases hN0 : N = 0
      · subst hN0
        cases p with
        | true =>
          go_wp2_with fail
          go_roundw
          case rel => exact ⟨k + 1, true, K, by omega, by go_num, rfl, by omega, fun h => (by cases h), hKs, by omega, hO, hF⟩
          case measure => simp [intOf]; omega
        | false =>
          have hKl := hKp.out rfl
          have hK2 : Hid (∀ s ∈ K ++ [(g, c, l2, P, M)], SmRt s) := sm_snoc hKs.out HX.out
          have tok1 : True := trivial
          go_wp2_with (first | (go_at_call 36; go_must (refine (l4Copy_any g c l2 _ _ P M _ (It.below HI.out.1 hF.kp) (It.below HI.out.2 hF.kp) HX4.out.1 HX4.out.2).mono ?_); rintro e wy ⟨pv9, mv9, rfl, y1, y2, hby⟩; obtain ⟨oy1, cy1, rfl, -⟩ := y1.1.1.ex; obtain ⟨oy2, cy2, rfl, -⟩ := y2.1.1.ex; have hlo := hO.lt; have hsy := hby.size; replace hF := hF.below hby; replace hO := hO.below hby; clear hby o e0 e1 e2 e3 e4; have e0 := hF.old E4.out.1; have e1 := hF.old E4.out.2.1; have e2 := hF.old E4.out.2.2.1; have e3 := hF.old E4.out.2.2.2.1; have e4 := hF.old E4.out.2.2.2.2; have o := hF.own; simp only [World.size_alloc, World.size_drew, World.size_setCell, List.mem_cons, List.not_mem_nil, or_false, forall_eq_or_imp, forall_eq, At, and_true, Nat.zero_add, Nat.reduceAdd, List.set_cons_zero, List.set_cons_succ] at o) | (at_builtin; (clear tok1); obtain ⟨ds, hOw, hG⟩ := hO; have hlG := hG.1; refine wpList_app rfl _ _ 30 rfl 64 (.agg #[.int .i64 0, .int .i64 0, .slice none 0 0, .int .i64 0, .slice none 0 0]) 5 72 Try.underlying30 infoRt rfl (by decide) (by decide) (n1 + 1) encRt _ _ rfl (hOw.alloc _) (⟨g, c, l2, .slice oy1 P.length cy1, .slice oy2 M.length cy2⟩ : RtD) ⟨_, 0, none⟩ 1 rfl rfl (cells_new _ _ _) (by simp [encRt, Value.oneCell']) (by omega) (by simp only [World.size_alloc]; omega) ?_; intro v' wx hO1 hg1 hb1 hf1; (have hO := go2_snocI (s := (g, c, l2, P, M)) hG ((Below.refl _ _).alloc (Nat.le_refl _) _) hO1 hg1 hf1 (Sh.below (S := shRi) ⟨⟨rfl, rfl, rfl⟩, y1.1, y2.1⟩ ((Below.refl _ _).alloc (Nat.le_refl _) _)) (sub2 (fun g h => ⟨by have := y1.2 g h; omega, by have := y1.2 g h; simp only [World.size_alloc]; omega, fun e => by have := y1.2 g h; have := hlo g e; omega⟩) (fun g h => ⟨by have := y2.2 g h; omega, by have := y2.2 g h; simp only [World.size_alloc]; omega, fun e => by have := y2.2 g h; have := hlo g e; omega⟩))); have hsz9 := hb1.size; simp only [World.size_alloc] at hsz9; replace hF := (hF.other _).belowB hb1 (by omega) (by simp); clear hg1 hb1 hf1 hO1 hOw hG o e0 e1 e2 e3 e4; have e0 := hF.old E4.out.1; have e1 := hF.old E4.out.2.1; have e2 := hF.old E4.out.2.2.1; have e3 := hF.old E4.out.2.2.2.1; have e4 := hF.old E4.out.2.2.2.2; have o := hF.own; simp only [World.size_alloc, World.size_drew, World.size_setCell, List.mem_cons, List.not_mem_nil, or_false, forall_eq_or_imp, forall_eq, At, and_true, Nat.zero_add, Nat.reduceAdd, List.set_cons_zero, List.set_cons_succ] at o))
          go_roundw
          case rel => exact ⟨k + 1, true, K ++ [(g, c, l2, P, M)], by omega, by go_num, rfl, by simp; omega, fun h => (by cases h), hK2, by omega, hO, hF⟩
          case measure => simp [intOf]; omega
      · have dN : (N != 0) = true := by simp [hN0]
        cases p with
        | true =>
          have hK2 : Hid (∀ s ∈ K ++ [(f, b, lk, P1, M1)], SmRt s) := sm_snoc hKs.out HSS.out
          clear hN0
          go_wp2_with ((at_builtin; skip; obtain ⟨ds, hOw, hG⟩ := hO; have hlG := hG.1; refine wpList_app rfl _ _ 30 rfl 64 (.agg #[.int .i64 0, .int .i64 0, .slice none 0 0, .int .i64 0, .slice none 0 0]) 5 72 Try.underlying30 infoRt rfl (by decide) (by decide) (n1 + 1) encRt _ _ rfl (hOw.alloc _) (⟨f, b, lk, .slice a1 m1 k1, .slice a2 m2 k2⟩ : RtD) ⟨_, 0, none⟩ 1 rfl rfl (cells_new _ _ _) (by simp [encRt, Value.oneCell']) (by omega) (by simp only [World.size_alloc]; omega) ?_; intro v' wx hO1 hg1 hb1 hf1; (have hO := go2_snocI (s := (f, b, lk, P1, M1)) hG ((Below.refl _ _).alloc (Nat.le_refl _) _) hO1 hg1 hf1 (Sh.below (Sh.below HRD.out hF.kp) ((Below.refl _ _).alloc (Nat.le_refl _) _)) (sub2 (fun g h => ⟨(HSUB.out.1 g h).1, by have := (HSUB.out.1 g h).2; simp only [World.size_alloc]; omega, fun e => by have := (HSUB.out.1 g h).2; have := hOw.ge g e; omega⟩) (fun g h => ⟨(HSUB.out.2 g h).1, by have := (HSUB.out.2 g h).2; simp only [World.size_alloc]; omega, fun e => by have := (HSUB.out.2 g h).2; have := hOw.ge g e; omega⟩))); have hsz9 := hb1.size; simp only [World.size_alloc] at hsz9; replace hF := (hF.other _).belowB hb1 (by omega) (by simp); clear hg1 hb1 hf1 hO1 hOw hG o e0 e1 e2 e3 e4; have e0 := hF.old E4.out.1; have e1 := hF.old E4.out.2.1; have e2 := hF.old E4.out.2.2.1; have e3 := hF.old E4.out.2.2.2.1; have e4 := hF.old E4.out.2.2.2.2; have o := hF.own; simp only [World.size_alloc, World.size_drew, World.size_setCell, List.mem_cons, List.not_mem_nil, or_false, forall_eq_or_imp, forall_eq, At, and_true, Nat.zero_add, Nat.reduceAdd, List.set_cons_zero, List.set_cons_succ] at o))
          go_roundw
          case rel => exact ⟨k + 1, true, K ++ [(f, b, lk, P1, M1)], by omega, by go_num, rfl, by simp; omega, fun h => (by cases h), hK2, by omega, hO, hF⟩
          case measure => simp [intOf]; omega
        | false =>
          have hKl := hKp.out rfl
          by_cases hlz : N < 0
          · have dl : decide (0 ≤ N) = false := decide_eq_false (by omega)
            have hK2 : Hid (∀ s ∈ K ++ [(f, b, lk, P1, M1)], SmRt s) := sm_snoc hKs.out HSS.out
            clear hN0 hlz
            go_wp2_with ((at_builtin; skip; obtain ⟨ds, hOw, hG⟩ := hO; have hlG := hG.1; refine wpList_app rfl _ _ 30 rfl 64 (.agg #[.int .i64 0, .int .i64 0, .slice none 0 0, .int .i64 0, .slice none 0 0]) 5 72 Try.underlying30 infoRt rfl (by decide) (by decide) (n1 + 1) encRt _ _ rfl (hOw.alloc _) (⟨f, b, lk, .slice a1 m1 k1, .slice a2 m2 k2⟩ : RtD) ⟨_, 0, none⟩ 1 rfl rfl (cells_new _ _ _) (by simp [encRt, Value.oneCell']) (by omega) (by simp only [World.size_alloc]; omega) ?_; intro v' wx hO1 hg1 hb1 hf1; (have hO := go2_snocI (s := (f, b, lk, P1, M1)) hG ((Below.refl _ _).alloc (Nat.le_refl _) _) hO1 hg1 hf1 (Sh.below (Sh.below HRD.out hF.kp) ((Below.refl _ _).alloc (Nat.le_refl _) _)) (sub2 (fun g h => ⟨(HSUB.out.1 g h).1, by have := (HSUB.out.1 g h).2; simp only [World.size_alloc]; omega, fun e => by have := (HSUB.out.1 g h).2; have := hOw.ge g e; omega⟩) (fun g h => ⟨(HSUB.out.2 g h).1, by have := (HSUB.out.2 g h).2; simp only [World.size_alloc]; omega, fun e => by have := (HSUB.out.2 g h).2; have := hOw.ge g e; omega⟩))); have hsz9 := hb1.size; simp only [World.size_alloc] at hsz9; replace hF := (hF.other _).belowB hb1 (by omega) (by simp); clear hg1 hb1 hf1 hO1 hOw hG o e0 e1 e2 e3 e4; have e0 := hF.old E4.out.1; have e1 := hF.old E4.out.2.1; have e2 := hF.old E4.out.2.2.1; have e3 := hF.old E4.out.2.2.2.1; have e4 := hF.old E4.out.2.2.2.2; have o := hF.own; simp only [World.size_alloc, World.size_drew, World.size_setCell, List.mem_cons, List.not_mem_nil, or_false, forall_eq_or_imp, forall_eq, At, and_true, Nat.zero_add, Nat.reduceAdd, List.set_cons_zero, List.set_cons_succ] at o))
            go_roundw
            case rel => exact ⟨k + 1, false, K ++ [(f, b, lk, P1, M1)], by omega, by go_num, rfl, by simp; omega, fun _ => (by simp; omega), hK2, by omega, hO, hF⟩
            case measure => simp [intOf]; omega
          · have dl : decide (0 ≤ N) = true := decide_eq_true (by omega)
            have hK2 : Hid (∀ s ∈ K ++ [(g, c, l2, P, M)] ++ [(f, b, lk, P1, M1)], SmRt s) := sm_snoc (sm_snoc hKs.out HX.out) HSS.out
            clear hN0 hlz
            have tok1 : True := trivial
            have hK3 : (K ++ [(g, c, l2, P, M)]).length ≤ 102 := by simp; omega
            go_wp2_with (first | (go_at_call 36; go_must (refine (l4Copy_any g c l2 _ _ P M _ (It.below HI.out.1 hF.kp) (It.below HI.out.2 hF.kp) HX4.out.1 HX4.out.2).mono ?_); rintro e wy ⟨pv9, mv9, rfl, y1, y2, hby⟩; obtain ⟨oy1, cy1, rfl, -⟩ := y1.1.1.ex; obtain ⟨oy2, cy2, rfl, -⟩ := y2.1.1.ex; have hlo := hO.lt; have hsy := hby.size; replace hF := hF.below hby; replace hO := hO.below hby; clear hby o e0 e1 e2 e3 e4; have e0 := hF.old E4.out.1; have e1 := hF.old E4.out.2.1; have e2 := hF.old E4.out.2.2.1; have e3 := hF.old E4.out.2.2.2.1; have e4 := hF.old E4.out.2.2.2.2; have o := hF.own; simp only [World.size_alloc, World.size_drew, World.size_setCell, List.mem_cons, List.not_mem_nil, or_false, forall_eq_or_imp, forall_eq, At, and_true, Nat.zero_add, Nat.reduceAdd, List.set_cons_zero, List.set_cons_succ] at o) | (at_builtin; (clear tok1); obtain ⟨ds, hOw, hG⟩ := hO; have hlG := hG.1; refine wpList_app rfl _ _ 30 rfl 64 (.agg #[.int .i64 0, .int .i64 0, .slice none 0 0, .int .i64 0, .slice none 0 0]) 5 72 Try.underlying30 infoRt rfl (by decide) (by decide) (n1 + 1) encRt _ _ rfl (hOw.alloc _) (⟨g, c, l2, .slice oy1 P.length cy1, .slice oy2 M.length cy2⟩ : RtD) ⟨_, 0, none⟩ 1 rfl rfl (cells_new _ _ _) (by simp [encRt, Value.oneCell']) (by omega) (by simp only [World.size_alloc]; omega) ?_; intro v' wx hO1 hg1 hb1 hf1; (have hO := go2_snocI (s := (g, c, l2, P, M)) hG ((Below.refl _ _).alloc (Nat.le_refl _) _) hO1 hg1 hf1 (Sh.below (S := shRi) ⟨⟨rfl, rfl, rfl⟩, y1.1, y2.1⟩ ((Below.refl _ _).alloc (Nat.le_refl _) _)) (sub2 (fun g h => ⟨by have := y1.2 g h; omega, by have := y1.2 g h; simp only [World.size_alloc]; omega, fun e => by have := y1.2 g h; have := hlo g e; omega⟩) (fun g h => ⟨by have := y2.2 g h; omega, by have := y2.2 g h; simp only [World.size_alloc]; omega, fun e => by have := y2.2 g h; have := hlo g e; omega⟩))); have hsz9 := hb1.size; simp only [World.size_alloc] at hsz9; replace hF := (hF.other _).belowB hb1 (by omega) (by simp); clear hg1 hb1 hf1 hO1 hOw hG o e0 e1 e2 e3 e4; have e0 := hF.old E4.out.1; have e1 := hF.old E4.out.2.1; have e2 := hF.old E4.out.2.2.1; have e3 := hF.old E4.out.2.2.2.1; have e4 := hF.old E4.out.2.2.2.2; have o := hF.own; simp only [World.size_alloc, World.size_drew, World.size_setCell, List.mem_cons, List.not_mem_nil, or_false, forall_eq_or_imp, forall_eq, At, and_true, Nat.zero_add, Nat.reduceAdd, List.set_cons_zero, List.set_cons_succ] at o) | (at_builtin; skip; obtain ⟨ds, hOw, hG⟩ := hO; have hlG := hG.1; refine wpList_app rfl _ _ 30 rfl 64 (.agg #[.int .i64 0, .int .i64 0, .slice none 0 0, .int .i64 0, .slice none 0 0]) 5 72 Try.underlying30 infoRt rfl (by decide) (by decide) (n1 + 1) encRt _ _ rfl (hOw.alloc _) (⟨f, b, lk, .slice a1 m1 k1, .slice a2 m2 k2⟩ : RtD) ⟨_, 0, none⟩ 1 rfl rfl (cells_new _ _ _) (by simp [encRt, Value.oneCell']) (by omega) (by simp only [World.size_alloc]; omega) ?_; intro v' wx hO1 hg1 hb1 hf1; (have hO := go2_snocI (s := (f, b, lk, P1, M1)) hG ((Below.refl _ _).alloc (Nat.le_refl _) _) hO1 hg1 hf1 (Sh.below (Sh.below HRD.out hF.kp) ((Below.refl _ _).alloc (Nat.le_refl _) _)) (sub2 (fun g h => ⟨(HSUB.out.1 g h).1, by have := (HSUB.out.1 g h).2; simp only [World.size_alloc]; omega, fun e => by have := (HSUB.out.1 g h).2; have := hOw.ge g e; omega⟩) (fun g h => ⟨(HSUB.out.2 g h).1, by have := (HSUB.out.2 g h).2; simp only [World.size_alloc]; omega, fun e => by have := (HSUB.out.2 g h).2; have := hOw.ge g e; omega⟩))); have hsz9 := hb1.size; simp only [World.size_alloc] at hsz9; replace hF := (hF.other _).belowB hb1 (by omega) (by simp); clear hg1 hb1 hf1 hO1 hOw hG o e0 e1 e2 e3 e4; have e0 := hF.old E4.out.1; have e1 := hF.old E4.out.2.1; have e2 := hF.old E4.out.2.2.1; have e3 := hF.old E4.out.2.2.2.1; have e4 := hF.old E4.out.2.2.2.2; have o := hF.own; simp only [World.size_alloc, World.size_drew, World.size_setCell, List.mem_cons, List.not_mem_nil, or_false, forall_eq_or_imp, forall_eq, At, and_true, Nat.zero_add, Nat.reduceAdd, List.set_cons_zero, List.set_cons_succ] at o))
            go_roundw
            case rel => exact ⟨k + 1, true, K ++ [(g, c, l2, P, M)] ++ [(f, b, lk, P1, M1)], by omega, by go_num, rfl, by simp; omega, fun h => (by cases h), hK2, by omega, hO, hF⟩
            case measure => simp [intOf]; omega
    · have hkn : k = n := by omega
      subst hkn
      have o := hF.own; simp only [World.size_alloc, World.size_drew, World.size_setCell, List.mem_cons, List.not_mem_nil, or_false, forall_eq_or_imp, forall_eq, At, and_true, Nat.zero_add, Nat.reduceAdd, List.set_cons_zero, List.set_cons_succ] at o
      cases p with
      | true =>
        go_wp2_with fail
        go_ret
        exact ⟨_, K, rfl, hO.gown (by omega), by have := hn.out; omega, hKs.out, hF.kp⟩
      | false =>
        have hKl := hKp.out rfl
        have hK2 : Hid (∀ s ∈ K ++ [(g, c, l2, P, M)], SmRt s) := sm_snoc hKs.out HX.out
        have tok1 : True := trivial
        go_wp2_with (first | (go_at_call 36; go_must (refine (l4Copy_any g c l2 _ _ P M _ (It.below HI.out.1 hF.kp) (It.below HI.out.2 hF.kp) HX4.out.1 HX4.out.2).mono ?_); rintro e wy ⟨pv9, mv9, rfl, y1, y2, hby⟩; obtain ⟨oy1, cy1, rfl, -⟩ := y1.1.1.ex; obtain ⟨oy2, cy2, rfl, -⟩ := y2.1.1.ex; have hlo := hO.lt; have hsy := hby.size; replace hF := hF.below hby; replace hO := hO.below hby; clear hby o; have o := hF.own; simp only [World.size_alloc, World.size_drew, World.size_setCell, List.mem_cons, List.not_mem_nil, or_false, forall_eq_or_imp, forall_eq, At, and_true, Nat.zero_add, Nat.reduceAdd, List.set_cons_zero, List.set_cons_succ] at o) | (at_builtin; (clear tok1); obtain ⟨ds, hOw, hG⟩ := hO; have hlG := hG.1; refine wpList_app rfl _ _ 30 rfl 64 (.agg #[.int .i64 0, .int .i64 0, .slice none 0 0, .int .i64 0, .slice none 0 0]) 5 72 Try.underlying30 infoRt rfl (by decide) (by decide) (n1 + 1) encRt _ _ rfl (hOw.alloc _) (⟨g, c, l2, .slice oy1 P.length cy1, .slice oy2 M.length cy2⟩ : RtD) ⟨_, 0, none⟩ 1 rfl rfl (cells_new _ _ _) (by simp [encRt, Value.oneCell']) (by omega) (by simp only [World.size_alloc]; omega) ?_; intro v' wx hO1 hg1 hb1 hf1; (have hO := go2_snocI (s := (g, c, l2, P, M)) hG ((Below.refl _ _).alloc (Nat.le_refl _) _) hO1 hg1 hf1 (Sh.below (S := shRi) ⟨⟨rfl, rfl, rfl⟩, y1.1, y2.1⟩ ((Below.refl _ _).alloc (Nat.le_refl _) _)) (sub2 (fun g h => ⟨by have := y1.2 g h; omega, by have := y1.2 g h; simp only [World.size_alloc]; omega, fun e => by have := y1.2 g h; have := hlo g e; omega⟩) (fun g h => ⟨by have := y2.2 g h; omega, by have := y2.2 g h; simp only [World.size_alloc]; omega, fun e => by have := y2.2 g h; have := hlo g e; omega⟩))); have hsz9 := hb1.size; simp only [World.size_alloc] at hsz9; replace hF := (hF.other _).belowB hb1 (by omega) (by simp); clear hg1 hb1 hf1 hO1 hOw hG o; have o := hF.own; simp only [World.size_alloc, World.size_drew, World.size_setCell, List.mem_cons, List.not_mem_nil, or_false, forall_eq_or_imp, forall_eq, At, and_true, Nat.zero_add, Nat.reduceAdd, List.set_cons_zero, List.set_cons_succ] at o))
        go_ret
        exact ⟨_, K ++ [(g, c, l2, P, M)], rfl, hO.gown (by omega), by have := hn.out; simp; omega, hK2.out, hF.kp⟩
set_option maxRecDepth 100000 in
set_option maxHeartbeats 4000000 in
theorem l92RoutesI_any (r k : Nat) (w : World) (hR : Rd w r k) (hk : k ≤ 500000) :
    Calls Try.prog 40 #[.pointer (some ⟨r, 0, none⟩)] w fun e w' => ∃ (v : Value) (L : List Rt), e = .returned v ∧ GOwn shRi 64 w' w.heap.size v L ∧ L.length ≤ 8 ∧ (∀ s ∈ L, SmRt s) ∧ (∃ k', k' ≤ k + 2000 ∧ Rd w' r k') ∧ Kp r w w' := by
  have hr := hR.lt
  have hF := (Fr.start r w).other (.cells #[] 64)
  have hO : GOwn shRi 64 (w.alloc (.cells #[] 64)) w.heap.size (.slice (some ⟨w.heap.size, 0, none⟩) 0 0) [] := GOwn.made _ _ _ (Nat.le_refl _)
  replace hR := hR.alloc (.cells #[] 64)
  go_enter Try.func40, Try.ntmps40
  go_wp2_with fail
  refine (pick_any r _ _ _ hR (by omega) (by omega) (by omega)).mono ?_; rintro e w1 ⟨v1, rfl, u1, l1, hR1, hK1⟩
  obtain ⟨n1, rfl⟩ := Int.eq_ofNat_of_zero_le u1
  replace hF := hF.call hK1
  replace hO := hO.kp hK1 hr
  have hs1 := hK1.size
  simp only [World.size_alloc] at hs1
  clear hK1 hR
  go_wp2_with fail
  go_loopw [3, 4] (fun s3 s4 wr => ∃ (n k' : Nat) (L : List Rt), s4 = .int .i64 (n : Int) ∧ n ≤ n1 ∧ L.length + n ≤ n1 ∧ k' + n * 110 ≤ k + 1 + n1 * 110 ∧ Hid (∀ s ∈ L, SmRt s) ∧ GOwn shRi 64 wr w.heap.size s3 L ∧ Rd wr r k' ∧ Fr r w wr [] ∧ w.heap.size ≤ wr.heap.size) (fun _ s4 _ => (intOf s4).toNat)
  case atStart => exact ⟨n1, k + 1, [], rfl, Nat.le_refl _, by simp, by omega, fun s h => (by simp at h), hO, hR1, hF, by omega⟩
  case round =>
    clear hF hR1 hO
    obtain ⟨n, k', L, rfl, hn, hL, hk', hs, hO, hR, hF, hsz⟩ := hrel
    by_cases hlt : 0 < n
    · have hle : decide (0 < (n : Int)) = true := decide_eq_true (by omega)
      go_wp2_with fail
      refine (pick_any r _ _ _ hR (by omega) (by omega) (by omega)).mono ?_; rintro e w2 ⟨v2, rfl, x2, l2, hR2, hK2⟩
      replace hF := hF.call hK2
      replace hO := hO.kp hK2 hr
      have hs2 := hK2.size
      clear hK2 hR
      go_wp2_with fail
      obtain ⟨h2, hh2⟩ : ∃ h : Int, 1 + v2 = h := ⟨_, rfl⟩
      rw [hh2]
      have hB : Bts h2 1 5 := by unfold Bts; omega
      clear x2 l2 hh2
      refine (l92From_any r _ h2 _ hR2 (by omega) hB).mono ?_; rintro e wx ⟨f, b, lk, pv, mv, P, M, rfl, hP, hM, hP4, hM9, hl1, ⟨hl2, hfb⟩, ⟨k9, hk9, hRx⟩, hKx⟩
      have hR := hR2
      obtain ⟨o1, c1, rfl, -⟩ := hP.1.1.ex
      obtain ⟨o2, c2, rfl, -⟩ := hM.1.1.ex
      have hlo := hO.lt
      replace hO := hO.kp hKx hr
      replace hF := hF.call hKx
      have hsx := hKx.size
      have hSx : Hid (SmRt (f, b, lk, P, M)) := ⟨hfb, hl1, hl2, hP4, hM9⟩
      clear hKx hR
      go_wp2_with fail
      refine (l23PutI_any w.heap.size _ L f b lk _ _ P M _ hO (by omega) hP.1 hM.1 (by omega) hs.out hSx.out).mono ?_; rintro e w4 ⟨u4, K, rfl, hO4, hK4, hs4, hb4⟩
      have hs5 := Lib.hid hs4
      replace hF := hF.below hb4
      replace hR := hRx.below hb4 hRx.lt
      have hz4 := hb4.size
      clear hb4 hO hRx hs4 hP hM hlo
      go_wp2_with fail
      go_roundw
      case rel => exact ⟨n - 1, k9, K, by go_num, by omega, by omega, by omega, hs5, hO4, hR, hF, by omega⟩
      case measure => simp [intOf]; omega
    · have hle : decide (0 < (n : Int)) = false := decide_eq_false (by omega)
      go_wp2_with fail
      refine (pick_any r _ _ _ hR (by omega) (by omega) (by omega)).mono ?_; rintro e w2 ⟨v2, rfl, x2, l2, hR2, hK2⟩
      replace hF := hF.call hK2
      replace hO := hO.kp hK2 hr
      have hs2 := hK2.size
      clear hK2 hR
      by_cases hz : v2 = 0
      · subst hz
        go_wp2_with fail
        refine (l91Route_any r _ _ hR2 (by omega)).mono ?_; rintro e wx ⟨f, b, lk, pv, mv, P, M, rfl, hP, hM, hP4, hM9, hl1, ⟨hl2, hfb⟩, ⟨k9, hk9, hRx⟩, hKx⟩
        have hR := hR2
        obtain ⟨o1, c1, rfl, -⟩ := hP.1.1.ex
        obtain ⟨o2, c2, rfl, -⟩ := hM.1.1.ex
        have hlo := hO.lt
        replace hO := hO.kp hKx hr
        replace hF := hF.call hKx
        have hsx := hKx.size
        have hSx : Hid (SmRt (f, b, lk, P, M)) := ⟨hfb, hl1, hl2, hP4, hM9⟩
        clear hKx hR
        have hs6 : Hid (∀ s ∈ L ++ [(f, b, lk, P, M)], SmRt s) := sm_snoc hs.out hSx.out
        have hR := hRx
        go_wp2_with ((at_builtin; obtain ⟨ds, hOw, hG⟩ := hO; have hlG := hG.1; refine wpList_app rfl _ _ 30 rfl 64 (.agg #[.int .i64 0, .int .i64 0, .slice none 0 0, .int .i64 0, .slice none 0 0]) 5 72 Try.underlying30 infoRt rfl (by decide) (by decide) (w.heap.size) encRt _ _ rfl (hOw.alloc _) (⟨f, b, lk, .slice o1 P.length c1, .slice o2 M.length c2⟩ : RtD) ⟨_, 0, none⟩ 1 rfl rfl (cells_new _ _ _) (by simp [encRt, Value.oneCell']) (by omega) (by simp only [World.size_alloc]; omega) ?_; intro v' wx hO1 hg1 hb1 hf1; have hO := go2_snocI (s := (f, b, lk, P, M)) hG ((Below.refl _ _).alloc (Nat.le_refl _) _) hO1 hg1 hf1 (Sh.below (S := shRi) ⟨⟨rfl, rfl, rfl⟩, hP.1, hM.1⟩ ((Below.refl _ _).alloc (Nat.le_refl _) _)) (sub2 (fun g h => ⟨by have := hP.2 g h; omega, by have := hP.2 g h; simp only [World.size_alloc]; omega, fun e => by have := hP.2 g h; have := hlo g e; omega⟩) (fun g h => ⟨by have := hM.2 g h; omega, by have := hM.2 g h; simp only [World.size_alloc]; omega, fun e => by have := hM.2 g h; have := hlo g e; omega⟩)); have hsz9 := hb1.size; simp only [World.size_alloc] at hsz9; replace hR := (hR.alloc _).below hb1 hr; replace hF := (hF.other _).belowB hb1 (by omega) (by simp); clear hg1 hb1 hf1 hO1 hOw hG))
        go_ret
        exact ⟨_, L ++ [(f, b, lk, P, M)], rfl, hO.gown (Nat.le_refl _), by simp; omega, hs6.out, ⟨k9, by omega, hR⟩, hF.kp⟩
      · have dz : (v2 == 0) = false := by simp [hz]
        go_wp2_with fail
        go_ret
        exact ⟨_, L, rfl, hO, by omega, hs.out, ⟨k' + 1, by omega, hR2⟩, hF.kp⟩
end Go.Proofs.Ytjkfnjjkjhggfaa
set_option linter.unusedSimpArgs false
set_option linter.unusedVariables false
namespace Go.Proofs.Ytjkfnjjkjhggfaa
open Go.RowKit

set_option maxRecDepth 100000 in
set_option maxHeartbeats 4000000 in
theorem l92Change_any (r k : Nat) (w : World) (hR : Rd w r k) (hk : k ≤ 400000) :
    Calls Try.prog 32 #[.pointer (some ⟨r, 0, none⟩)] w fun e w' => ∃ (v1 v2 : Value) (L1 L2 : List Rt), e = .returned (.tuple #[v1, v2]) ∧ GOwn shRi 64 w' w.heap.size v1 L1 ∧ GOwn shRi 64 w' w.heap.size v2 L2 ∧ (L1.length ≤ 8 ∧ L2.length ≤ 13) ∧ ((∀ s ∈ L1, SmRt s) ∧ ∀ s ∈ L2, SmRt s) ∧ Kp r w w' := by
  have hr := hR.lt
  go_enter Try.func32, Try.ntmps32
  go_wp2_with fail
  refine (l92RoutesI_any r k _ hR (by omega)).mono ?_; rintro e w1 ⟨v1, L1, rfl, hO1, hn1, hs1, ⟨k1, hk1, hR1⟩, hK1⟩
  have HS1 := Lib.hid hs1
  have hz1 := hK1.size
  have hr1 := hR1.lt
  have HO1 := Lib.hid hO1
  have hF := Fr.start r w1
  clear hR hs1
  go_wp2_with fail
  refine (pick_any r _ _ _ hR1 (by omega) (by omega) (by omega)).mono ?_; rintro e w2 ⟨v2, rfl, x2, l2, hR2, hK2⟩
  replace hF := hF.call hK2
  have hs2 := hK2.size
  clear hK2 hR1
  by_cases hz : v2 = 0
  · subst hz
    go_wp2_with fail
    refine (l92RoutesI_any r _ _ hR2 (by omega)).mono ?_; rintro e w3 ⟨v3, L3, rfl, hO3, hn3, hs3, -, hK3⟩
    replace hF := hF.call hK3
    go_wp2_with fail
    refine bodyPost_ret (v := .tuple #[v1, v3]) (by simp [results, Try.results32, go_sem]) rfl ?_
    exact ⟨_, _, L1, L3, rfl, hO1.kp hF.kp hr, hO3.base (by omega), ⟨hn1, by omega⟩, ⟨HS1.out, hs3⟩, hK1.trans hF.kp⟩
  · have dz : (v2 == 0) = false := by simp [hz]
    clear hz x2 l2
    obtain ⟨ao, cap, rfl⟩ := hO1.sl
    obtain ⟨n, hn⟩ : ∃ n, Hid (L1.length = n) := ⟨_, rfl⟩
    rw [hn.out] at HO1 hn1 ⊢
    clear hO1
    have hO : GOwn shRi 64 (w2.alloc (.cells #[] 64)) w1.heap.size (.slice (some ⟨w2.heap.size, 0, none⟩) 0 0) [] := GOwn.made _ _ _ (by omega)
    replace hF := hF.other (.cells #[] 64)
    have hR := hR2.alloc (.cells #[] 64)
    clear hR2
    go_wp2_with fail
    go_loopw [5, 6] (fun s5 s6 wr => ∃ (i k' : Nat) (K : List Rt), s6 = .int .i64 (i : Int) ∧ i ≤ n ∧ K.length ≤ i ∧ k' ≤ k1 + 1 + i ∧ Hid (∀ s ∈ K, SmRt s) ∧ GOwn shRi 64 wr w1.heap.size s5 K ∧ Rd wr r k' ∧ Fr r w1 wr [] ∧ w1.heap.size ≤ wr.heap.size) (fun _ s6 _ => n - (intOf s6).toNat)
    case atStart => exact ⟨0, k1 + 1, [], rfl, Nat.zero_le _, by simp, by omega, fun s h => (by simp at h), hO, hR, hF, by simp only [World.size_alloc]; omega⟩
    case round =>
      clear hF hR hO hs2
      obtain ⟨i, k', K, rfl, hi, hK, hk', hs, hO, hR, hF, hsz⟩ := hrel
      by_cases hlt : i < n
      · go_wp2_with fail
        refine (pick_any r _ _ _ hR (by omega) (by omega) (by omega)).mono ?_; rintro e w3 ⟨v3, rfl, x3, l3, hR3, hK3⟩
        replace hF := hF.call hK3
        replace hO := hO.kp hK3 hr1
        have hs3 := hK3.size
        clear hK3 hR
        by_cases hp : 0 < v3
        · have HO1r := HO1.out.kp hF.kp hr
          obtain ⟨b1, p1, rfl⟩ := GLs.adr HO1r.gls (by omega)
          obtain ⟨s, hs'⟩ := get_of hn.out hlt
          have HSS := Lib.hid (HS1.out s (List.mem_of_getElem? hs'))
          obtain ⟨f, b, lk, P, M⟩ := s
          obtain ⟨a1, m1, k1', a2, m2, k2', ⟨e0, e1, e2, e3, e4⟩, hrd, -⟩ := GOwn.rti HO1r hs'
          have hd : decide (0 < v3) = true := decide_eq_true hp
          clear hs' HO1r hp x3 l3
          have hR := hR3
          go_wp2_with fail
          refine (l4Copy_any f b lk _ _ P M _ hrd.2.1 hrd.2.2 (by have := HSS.out.2.2.2.1.1; dsimp only at this; omega) (by have := HSS.out.2.2.2.2; dsimp only at this; omega)).mono ?_; rintro e wx ⟨pv9, mv9, rfl, hP, hM, hbx⟩
          obtain ⟨o1, c1, rfl, -⟩ := hP.1.1.ex
          obtain ⟨o2, c2, rfl, -⟩ := hM.1.1.ex
          have hlo := hO.lt
          replace hF := hF.below hbx
          replace hO := hO.below hbx
          replace hR := hR.below hbx hR.lt
          have hsx := hbx.size
          have hs6 : Hid (∀ s ∈ K ++ [(f, b, lk, P, M)], SmRt s) := sm_snoc hs.out HSS.out
          clear hbx e0 e1 e2 e3 e4 hrd hR3
          have hr := hr1
          go_wp2_with ((at_builtin; obtain ⟨ds, hOw, hG⟩ := hO; have hlG := hG.1; refine wpList_app rfl _ _ 30 rfl 64 (.agg #[.int .i64 0, .int .i64 0, .slice none 0 0, .int .i64 0, .slice none 0 0]) 5 72 Try.underlying30 infoRt rfl (by decide) (by decide) (w1.heap.size) encRt _ _ rfl (hOw.alloc _) (⟨f, b, lk, .slice o1 P.length c1, .slice o2 M.length c2⟩ : RtD) ⟨_, 0, none⟩ 1 rfl rfl (cells_new _ _ _) (by simp [encRt, Value.oneCell']) (by omega) (by simp only [World.size_alloc]; omega) ?_; intro v' wx hO1 hg1 hb1 hf1; have hO := go2_snocI (s := (f, b, lk, P, M)) hG ((Below.refl _ _).alloc (Nat.le_refl _) _) hO1 hg1 hf1 (Sh.below (S := shRi) ⟨⟨rfl, rfl, rfl⟩, hP.1, hM.1⟩ ((Below.refl _ _).alloc (Nat.le_refl _) _)) (sub2 (fun g h => ⟨by have := hP.2 g h; omega, by have := hP.2 g h; simp only [World.size_alloc]; omega, fun e => by have := hP.2 g h; have := hlo g e; omega⟩) (fun g h => ⟨by have := hM.2 g h; omega, by have := hM.2 g h; simp only [World.size_alloc]; omega, fun e => by have := hM.2 g h; have := hlo g e; omega⟩)); have hsz9 := hb1.size; simp only [World.size_alloc] at hsz9; replace hR := (hR.alloc _).below hb1 hr; replace hF := (hF.other _).belowB hb1 (by omega) (by simp); clear hg1 hb1 hf1 hO1 hOw hG))
          go_roundw
          case rel => exact ⟨i + 1, k' + 1, K ++ [(f, b, lk, P, M)], by go_num, by omega, by simp; omega, by omega, hs6, hO.gown (Nat.le_refl _), hR, hF, by omega⟩
          case measure => simp [intOf]; omega
        · have hd : decide (0 < v3) = false := decide_eq_false hp
          clear hp x3 l3
          go_wp2_with fail
          go_roundw
          case rel => exact ⟨i + 1, k' + 1, K, by go_num, by omega, by omega, by omega, hs, hO, hR3, hF, by omega⟩
          case measure => simp [intOf]; omega
      · go_wp2_with fail
        refine (pick_any r _ _ _ hR (by omega) (by omega) (by omega)).mono ?_; rintro e w3 ⟨v3, rfl, x3, l3, hR3, hK3⟩
        replace hF := hF.call hK3
        replace hO := hO.kp hK3 hr1
        have hs3 := hK3.size
        clear hK3 hR
        obtain ⟨q0, rfl⟩ := Int.eq_ofNat_of_zero_le x3
        have hKn : K.length ≤ 8 := by omega
        go_wp2_with fail
        go_loopw [5, 7] (fun s5 s7 wr => ∃ (q k9 : Nat) (K2 : List Rt), s7 = .int .i64 (q : Int) ∧ q ≤ 4 ∧ K2.length + q ≤ 12 ∧ k9 + 110 * q ≤ k1 + 600 ∧ Hid (∀ s ∈ K2, SmRt s) ∧ GOwn shRi 64 wr w1.heap.size s5 K2 ∧ Rd wr r k9 ∧ Fr r w1 wr [] ∧ w1.heap.size ≤ wr.heap.size) (fun _ s7 _ => (intOf s7).toNat)
        case atStart => exact ⟨q0, k' + 1, K, rfl, by omega, by omega, by omega, hs, hO, hR3, hF, by omega⟩
        case round =>
          clear hF hR3 hO hs hs3 hsz hK hk' hlt hi
          obtain ⟨q, k9, K2, rfl, hq, hK2, hk9, hs, hO, hR, hF, hsz⟩ := hrel
          by_cases hlt : 0 < q
          · have hle : decide (0 < (q : Int)) = true := decide_eq_true (by omega)
            obtain ⟨bo, hbo⟩ : ∃ bo, decide (RsOk K2) = bo := ⟨_, rfl⟩
            have cC := sRoutesOk_any _ K2 wr hO.gls.rts
            rw [hbo] at cC
            clear hbo
            cases bo with
            | true =>
              go_wp2_with (go_at_call 42; go_must (refine cC.mono ?_); rintro e w4 ⟨rfl, hb4⟩; replace hF := hF.below hb4; replace hO := hO.below hb4; replace hR := hR.below hb4 hR.lt; have hs4 := hb4.size; clear hb4)
              refine (pick_any r _ _ _ hR (by omega) (by omega) (by omega)).mono ?_; rintro e w5 ⟨v5, rfl, x5, l5, hR5, hK5⟩
              replace hF := hF.call hK5
              replace hO := hO.kp hK5 hr1
              have hs5 := hK5.size
              clear hK5 hR
              go_wp2_with fail
              obtain ⟨h2, hh2⟩ : ∃ h : Int, 1 + v5 = h := ⟨_, rfl⟩
              rw [hh2]
              have hB : Bts h2 1 5 := by unfold Bts; omega
              clear x5 l5 hh2
              refine (l92From_any r _ h2 _ hR5 (by omega) hB).mono ?_; rintro e wx ⟨f, b, lk, pv, mv, P, M, rfl, hP, hM, hP4, hM9, hl1, ⟨hl2, hfb⟩, ⟨k8, hk8, hRx⟩, hKx⟩
              replace hO := hO.kp hKx hr1
              replace hF := hF.call hKx
              have hsx := hKx.size
              have hSx : Hid (SmRt (f, b, lk, P, M)) := ⟨hfb, hl1, hl2, hP4, hM9⟩
              clear hKx hR5
              obtain ⟨o1, c1, rfl, -⟩ := hP.1.1.ex
              obtain ⟨o2, c2, rfl, -⟩ := hM.1.1.ex
              go_wp2_with fail
              refine (l23PutI_any w1.heap.size _ K2 f b lk _ _ P M _ hO (by omega) hP.1 hM.1 (by omega) hs.out hSx.out).mono ?_; rintro e w6 ⟨u6, K6, rfl, hO6, hK6, hs6, hb6⟩
              have hs7 := Lib.hid hs6
              replace hF := hF.below hb6
              replace hR := hRx.below hb6 hRx.lt
              have hz6 := hb6.size
              clear hb6 hO hRx hs6 hP hM
              go_wp2_with fail
              go_roundw
              case rel => exact ⟨q - 1, k8, K6, by go_num, by omega, by omega, by omega, hs7, hO6, hR, hF, by omega⟩
              case measure => simp [intOf]; omega
            | false =>
              go_wp2_with (go_at_call 42; go_must (refine cC.mono ?_); rintro e w4 ⟨rfl, hb4⟩; replace hF := hF.below hb4; replace hO := hO.below hb4; replace hR := hR.below hb4 hR.lt; have hs4 := hb4.size; clear hb4)
              refine bodyPost_ret (v := .tuple #[.slice ao n cap, u5]) (by simp [results, Try.results32, go_sem]) rfl ?_
              exact ⟨_, _, L1, K2, rfl, HO1.out.kp hF.kp hr, hO.base (by omega), ⟨by have := hn.out; omega, by omega⟩, ⟨HS1.out, hs.out⟩, hK1.trans hF.kp⟩
          · have hle : decide (0 < (q : Int)) = false := decide_eq_false (by omega)
            go_wp2_with fail
            refine bodyPost_ret (v := .tuple #[.slice ao n cap, u5]) (by simp [results, Try.results32, go_sem]) rfl ?_
            exact ⟨_, _, L1, K2, rfl, HO1.out.kp hF.kp hr, hO.base (by omega), ⟨by have := hn.out; omega, by omega⟩, ⟨HS1.out, hs.out⟩, hK1.trans hF.kp⟩
end Go.Proofs.Ytjkfnjjkjhggfaa
set_option linter.unusedSimpArgs false
set_option linter.unusedVariables false
namespace Go.Proofs.Ytjkfnjjkjhggfaa
open Go.RowKit

theorem rng_fields : (Try.prog.fieldsOf 62).toList = [⟨ "First", 3, 0, false, "", "", 0⟩, ⟨ "Bits", 3, 1, false, "", "", 8⟩] := by kernel_rfl
theorem rng_eq (f b g c : Int) (d : Nat) (w : World) : (Op.equalIn (d + 2) 62 (.agg #[.int .i64 f, .int .i64 b]) (.agg #[.int .i64 g, .int .i64 c])).run Try.prog w = .ok (f == g && b == c) w := by
  rw [run_equalIn_agg w (d + 1) 62 _ _ (by kernel_rfl) (by kernel_rfl), rng_fields]
  cases h1 : (f == g) <;> cases h2 : (b == c) <;> simp [Op.eqFields, go_sem, h1, h2]
theorem rng_neq (f b g c : Int) (w : World) : (binOp .neq 62 (.agg #[.int .i64 f, .int .i64 b]) (.agg #[.int .i64 g, .int .i64 c])).run Try.prog w = .ok (.bool (!(f == g && b == c))) w := by
  rw [run_neq_struct, rng_eq f b g c 9998]; rfl
theorem rng_eql (f b g c : Int) (w : World) : (binOp .eql 62 (.agg #[.int .i64 f, .int .i64 b]) (.agg #[.int .i64 g, .int .i64 c])).run Try.prog w = .ok (.bool (f == g && b == c)) w := by
  rw [run_eql_struct, rng_eq f b g c 9998]; rfl
end Go.Proofs.Ytjkfnjjkjhggfaa
