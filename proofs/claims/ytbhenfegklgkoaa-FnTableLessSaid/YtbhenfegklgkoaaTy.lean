/- Law on putting: FnTablePut. -/
import Derived.Test.YtbhenfegklgkoaaTx
set_option linter.unusedSimpArgs false
set_option linter.unusedVariables false
namespace Go.Proofs.Ytbhenfegklgkoaa
open Go.RowKit

theorem best_ex (a : Nat) : ∀ T : List Ent, (∃ x ∈ T, covE a x) → ∃ x ∈ T, covE a x ∧ ∀ y ∈ T, covE a y → y.2.1 ≤ x.2.1
  | [], h => by obtain ⟨x, hx, _⟩ := h; cases hx
  | z :: T, h => by
    by_cases ht : ∃ x ∈ T, covE a x
    · obtain ⟨x, hx, cx, hm⟩ := best_ex a T ht
      by_cases hz : covE a z ∧ x.2.1 < z.2.1
      · exact ⟨z, List.mem_cons_self, hz.1, fun y hy cy => by
          rcases List.mem_cons.1 hy with rfl | hy
          · exact Int.le_refl _
          · have := hm y hy cy; omega⟩
      · exact ⟨x, List.mem_cons_of_mem _ hx, cx, fun y hy cy => by
          rcases List.mem_cons.1 hy with rfl | hy
          · exact Int.not_lt.1 fun g => hz ⟨cy, g⟩
          · exact hm y hy cy⟩
    · obtain ⟨x, hx, cx⟩ := h
      rcases List.mem_cons.1 hx with rfl | hx
      · exact ⟨x, List.mem_cons_self, cx, fun y hy cy => by
          rcases List.mem_cons.1 hy with rfl | hy
          · exact Int.le_refl _
          · exact absurd ⟨y, hy, cy⟩ ht⟩
      · exact absurd ⟨x, hx, cx⟩ ht
/-- Whether a smaller one of T has a. -/
def Small (T : List Ent) (e : Ent) (a : Nat) : Prop := ∃ x ∈ T, ¬ (x.1 = e.1 ∧ x.2.1 = e.2.1) ∧ RIn x.1 x.2.1 e.1 e.2.1 ∧ RHas x.1 x.2.1 (a : Int)
theorem cov_same {a : Nat} {x y : Ent} (h : ecmp x y = 0) (c : covE a x) : covE a y := by
  rw [eq_iff] at h; unfold covE at *; rwa [h.1, h.2] at c
theorem fnd_yes {T : List Ent} {e : Ent} {a : Nat} (hT : TOk T) (he : EP e) (hl : (ins e T).length ≤ 12) (ha : a < 256) (hc : RHas e.1 e.2.1 (a : Int)) (hs : ¬ Small T e a) : fnd (ins e T) a = e.2.2 := by
  have hce := (has_cov ha he).1 hc
  refine fnd_best (ins_tok hT he hl) ha ((ins_mem (tok_srt hT)).2 (Or.inl rfl)) hce fun y hy cy => ?_
  rcases (ins_mem (tok_srt hT)).1 hy with rfl | ⟨hy, hne⟩
  · exact Int.le_refl _
  · refine Int.not_lt.1 fun g => hs ⟨y, hy, fun q => hne (by rw [eq_iff]; exact q), ?_, (has_cov ha (tok_ep hT hy)).2 cy⟩
    exact (in_iff ha he (tok_ep hT hy) hce cy (fun q => hne (eq_symm.1 q))).2 g
theorem fnd_no {T : List Ent} {e : Ent} {a : Nat} (hT : TOk T) (he : EP e) (hl : (ins e T).length ≤ 12) (ha : a < 256) (hc : ¬ (RHas e.1 e.2.1 (a : Int) ∧ ¬ Small T e a)) : fnd (ins e T) a = fnd T a := by
  by_cases hx : ∃ x ∈ T, covE a x
  · obtain ⟨z, hz, cz, hm⟩ := best_ex a T hx
    have key : ecmp z e ≠ 0 ∧ (covE a e → e.2.1 ≤ z.2.1) := by
      by_cases hce : covE a e
      · have hS : Small T e a := Classical.byContradiction fun g => hc ⟨(has_cov ha he).2 hce, g⟩
        obtain ⟨t, ht, hne, hin, hha⟩ := hS
        have ct := (has_cov ha (tok_ep hT ht)).1 hha
        have h1 := (in_iff ha he (tok_ep hT ht) hce ct (fun q => hne (by rw [eq_iff] at q; exact ⟨q.1.symm, q.2.symm⟩))).1 hin
        have h2 := hm t ht ct
        exact ⟨fun q => by rw [eq_iff] at q; omega, fun _ => by omega⟩
      · exact ⟨fun q => hce (cov_same q cz), fun q => absurd q hce⟩
    rw [fnd_best hT ha hz cz hm]
    refine fnd_best (ins_tok hT he hl) ha ((ins_mem (tok_srt hT)).2 (Or.inr ⟨hz, key.1⟩)) cz fun y hy cy => ?_
    rcases (ins_mem (tok_srt hT)).1 hy with rfl | ⟨hy, _⟩
    · exact key.2 cy
    · exact hm y hy cy
  · have hce : ¬ covE a e := fun q => hc ⟨(has_cov ha he).2 q, fun ⟨t, ht, _, _, hha⟩ => hx ⟨t, ht, (has_cov ha (tok_ep hT ht)).1 hha⟩⟩
    rw [fnd_none hT ha fun x h1 h2 => hx ⟨x, h1, h2⟩]
    refine fnd_none (ins_tok hT he hl) ha fun x h1 h2 => ?_
    rcases (ins_mem (tok_srt hT)).1 h1 with rfl | ⟨h1, _⟩
    · exact hce h2
    · exact hx ⟨x, h1, h2⟩
theorem small_0 {T : List Ent} {e : Ent} {a : Nat} : false = true ↔ Small (T.take 0) e a := by
  unfold Small; simp
theorem small_step {T : List Ent} {e y : Ent} {a k : Nat} (hy : T[k]? = some y) : Small (T.take (k + 1)) e a ↔ Small (T.take k) e a ∨ ¬ (y.1 = e.1 ∧ y.2.1 = e.2.1) ∧ RIn y.1 y.2.1 e.1 e.2.1 ∧ RHas y.1 y.2.1 (a : Int) := by
  unfold Small
  constructor
  · rintro ⟨x, hx, h⟩
    rcases (mem_step hy).1 hx with h1 | rfl
    · exact Or.inl ⟨x, h1, h⟩
    · exact Or.inr h
  · rintro (⟨x, hx, h⟩ | h)
    · exact ⟨x, (mem_step hy).2 (Or.inl hx), h⟩
    · exact ⟨y, (mem_step hy).2 (Or.inr rfl), h⟩
set_option maxHeartbeats 8000000 in
set_option maxRecDepth 100000 in
theorem FnTablePut_walk (a0 : Option Addr) (n0 c0 : Nat) (w : World) (h0 : Given w (.slice a0 n0 c0)) :
    Calls Try.prog 10 #[.slice a0 n0 c0] w fun e w' => e = .returned (.bool true) ∧ Below w.heap.size w w' := by
  by_cases hn0 : 1048576 < n0
  · have e0 : decide (1048576 < (n0 : Int)) = true := by simp; omega
    go_enter Try.func10, Try.ntmps10
    go_wp2
    go_ret
    exact ⟨rfl, Below.refl _ _⟩
  have e0 : decide (1048576 < (n0 : Int)) = false := by simp; omega
  have hF := Fb.start w
  go_enter Try.func10, Try.ntmps10
  go_wp2_with fail
  refine (drawTablePut_any _ _ h0).mono ?_; rintro e w1 ⟨v, T, f, b, g, rfl, hV, hT, hb1⟩
  replace hF := hF.below hb1
  clear hb1 h0
  go_wp2_with fail
  replace hF := hF.alloc [.int .i64 f, .int .i64 b, .int .i64 g] 29
  replace hV := hV.alloc (.cells #[.int .i64 f, .int .i64 b, .int .i64 g] 29)
  generalize hbe : w1.heap.size = be at *
  obtain ⟨X, q, hX⟩ : ∃ X q, tput T (f, b, g) = (X, q) := ⟨_, _, rfl⟩
  have HX := Lib.hid hX
  have c1 := sTablePut_any v T f b g _ hV (by omega)
  rw [hX] at c1
  refine c1.mono ?_; rintro e w2 ⟨vx1, rfl, hO1, hb2⟩
  clear c1
  replace hF := hF.below hb2
  replace hV := hV.below hb2
  have hU1 : Tb w2 vx1 X := hO1.tb
  clear hb2 hO1
  have o := hF.own; simp only [World.size_alloc, World.size_drew, World.size_setCell, List.mem_cons, List.not_mem_nil, or_false, forall_eq_or_imp, forall_eq, At, and_true, Nat.zero_add, Nat.reduceAdd, List.set_cons_zero, List.set_cons_succ] at o
  go_wp2_with fail
  have c1 := iTablePut_any v T f b g _ hV
  rw [hX] at c1
  refine c1.mono ?_; rintro e w3 ⟨vx2, rfl, hO2, hb3⟩
  clear c1 hX
  replace hF := hF.below hb3
  replace hU1 := hU1.below hb3
  replace hV := hV.below hb3
  have hU2 := hO2.tb
  clear hb3 hO2 o
  have o := hF.own; simp only [World.size_alloc, World.size_drew, World.size_setCell, List.mem_cons, List.not_mem_nil, or_false, forall_eq_or_imp, forall_eq, At, and_true, Nat.zero_add, Nat.reduceAdd, List.set_cons_zero, List.set_cons_succ] at o
  have hqq : (q != q) = false := by simp
  have hqe : (q == q) = true := by simp
  cases q
  · go_wp2_with ((go_at_call 30; go_must (refine (lyTable_same _ _ X _ hU2.1 hU1.1).mono ?_); rintro e wx ⟨rfl, hbx⟩; replace hF := hF.below hbx; (try replace hV := hV.below hbx); (try replace hU1 := hU1.below hbx); (try replace hU2 := hU2.below hbx); (try replace hU3 := hU3.below hbx); clear hbx; (try clear o); have o := hF.own; simp only [World.size_alloc, World.size_drew, World.size_setCell, List.mem_cons, List.not_mem_nil, or_false, forall_eq_or_imp, forall_eq, At, and_true, Nat.zero_add, Nat.reduceAdd, List.set_cons_zero, List.set_cons_succ] at o))
    go_ret
    exact ⟨rfl, hF.kp⟩
  · have hok := Lib.hid (tput_ok (T := T) (e := (f, b, g)) (by rw [HX.out]))
    have hXi : Hid (X = ins (f, b, g) T) := by
      have := hok.out.2.2.2.1
      rw [HX.out] at this
      injection this
    have hXok : Hid (TOk X) := by show TOk X; rw [hXi.out]; exact hok.out.2.2.2.2
    have hXd : decide (TOk X) = true := decide_eq_true hXok.out
    obtain ⟨n, cap, hn, hnc, hcap, hv'⟩ := hV.1.cases
    have hn12 : n ≤ 12 := by have := hn.out; have := hok.out.1.2; omega
    rcases hv' with ⟨hn0, ao, rfl⟩ | ⟨hn0, b0, off, rfl, hc⟩
    all_goals
      try clear hc
      go_wp2_with ((go_at_call 30; go_must (refine (lyTable_same _ _ X _ hU2.1 hU1.1).mono ?_); rintro e wx ⟨rfl, hbx⟩; replace hF := hF.below hbx; (try replace hV := hV.below hbx); (try replace hU1 := hU1.below hbx); (try replace hU2 := hU2.below hbx); (try replace hU3 := hU3.below hbx); clear hbx; (try clear o); have o := hF.own; simp only [World.size_alloc, World.size_drew, World.size_setCell, List.mem_cons, List.not_mem_nil, or_false, forall_eq_or_imp, forall_eq, At, and_true, Nat.zero_add, Nat.reduceAdd, List.set_cons_zero, List.set_cons_succ] at o))
      obtain ⟨wa, rfl⟩ : ∃ wa : World, wa = wx := ⟨_, rfl⟩
      have HV := Lib.hid hV
      have HU := Lib.hid hU2
      have HF := Lib.hid hF
      have E0 := Lib.hid o.1.1
      have E1 := Lib.hid o.1.2.2.1
      have E2 := Lib.hid o.1.2.2.2.2.1
      clear hV hU2 hU1 hF o
      go_loopw [9] (fun s9 wr => ∃ a : Nat, a ≤ 256 ∧ s9 = .int .i64 a ∧ Fb wa wr []) (fun s9 _ => 256 - (intOf s9).toNat)
      case atStart => exact ⟨0, by omega, rfl, Fb.start wa⟩
      case round =>
        obtain ⟨a, ha, rfl, hF⟩ := hrel
        by_cases hlt : a < 256
        · have hle : (a : Int) ≤ 255 := by omega
          have HFo := Lib.hid hF
          go_wp2
          go_loopw [10, 11] (fun s10 s11 wq => ∃ (k : Nat) (c : Bool), k ≤ n ∧ s10 = .bool c ∧ s11 = .int .i64 k ∧ Hid (c = true ↔ Small (T.take k) (f, b, g) a) ∧ Fb wa wq []) (fun _ s11 _ => n - (intOf s11).toNat)
          case atStart => exact ⟨0, false, Nat.zero_le _, rfl, rfl, small_0, hF⟩
          case round =>
            clear hF
            obtain ⟨k, c, hk, rfl, rfl, hc, hF⟩ := hrel
            by_cases hkn : k < n
            · try (exfalso; omega)
              all_goals
                obtain ⟨y, hy⟩ := get_of hn.out hkn
                have HY := Lib.hid hy
                have p0 := HV.out.1.get hy (j := 0) rfl
                have p1 := HV.out.1.get hy (j := 1) rfl
                clear hy
                obtain ⟨yf, yb, yv⟩ := y
                dsimp only [Nat.add_zero] at p0 p1
                have d3 := fun z : Cl wr.heap.size wr => Cl.old hF z p0
                have d4 := fun z : Cl wr.heap.size wr => Cl.old hF z p1
                have d5 := fun z : Cl wr.heap.size wr => Cl.old hF z E0.out
                have d6 := fun z : Cl wr.heap.size wr => Cl.old hF z E1.out
                clear p0 p1
                have hst := Lib.hid (small_step (e := (f, b, g)) (a := a) HY.out)
                cases c
                · by_cases he : yf = f ∧ yb = b
                  · have hneq : ∀ w, (binOp .neq 27 (.agg #[.int .i64 yf, .int .i64 yb]) (.agg #[.int .i64 f, .int .i64 b])).run Try.prog w = .ok (.bool false) w := fun w => by rw [rng_neq, he.1, he.2]; simp
                    have hc2 : Hid (false = true ↔ Small (T.take (k + 1)) (f, b, g) a) := by show _ ↔ _; rw [hst.out, ← hc.out]; simp [he]
                    clear he
                    go_wp2
                    first | refine wp_region_new (by kernel_rfl) (by kernel_rfl) ?_ | refine wp_region_lex ?_
                    repeat (any_goals (first | go_big_quiet_step ((fail)) | (refine wpQuiet_step (fun K hK => ?_); go_simp; split <;> (rename_i hg; refine hK _ ?_; clear hK K; simp only [hg, decide_true, decide_false]))))
                    all_goals (refine wpQuiet_nil ?_; intro x)
                    go_wp2
                    go_roundw
                    case rel => exact ⟨k + 1, false, by omega, rfl, by go_num, hc2, hF.cl x⟩
                    case measure => simp [intOf]; omega
                  · have hneq : ∀ w, (binOp .neq 27 (.agg #[.int .i64 yf, .int .i64 yb]) (.agg #[.int .i64 f, .int .i64 b])).run Try.prog w = .ok (.bool true) w := fun w => by
                      rw [rng_neq]
                      have : (yf == f && yb == b) = false := by
                        rw [Bool.eq_false_iff]; intro g; simp at g; exact he g
                      rw [this]; rfl
                    obtain ⟨h, hh⟩ : ∃ h, decide (RHas yf yb (a : Int)) = h := ⟨_, rfl⟩
                    have hRH := Lib.hid (fun w => (show Calls Try.prog 21 #[.agg #[.int .i64 yf, .int .i64 yb], .int .i64 (a : Int)] w fun e w' => e = .returned (.bool h) ∧ Below w.heap.size w w' from by have := iRangeHas_any yf yb a w; rw [hh] at this; exact this))
                    by_cases hi : RIn yf yb f b
                    · have dB : decide (RIn yf yb f b) = true := by simp [hi]
                      have hc2 : Hid (h = true ↔ Small (T.take (k + 1)) (f, b, g) a) := by show _ ↔ _; rw [hst.out, ← hc.out, ← hh]; simp [he, hi]
                      clear he hi hh
                      go_wp2
                      first | refine wp_region_new (by kernel_rfl) (by kernel_rfl) ?_ | refine wp_region_lex ?_
                      repeat (any_goals (first | go_big_quiet_step ((first | (go_at_call 21; exact Calls.cl (hRH.out _)) | (go_at_call 22; exact Calls.cl (iRangeIn_any _ _ _ _ _)))) | (refine wpQuiet_step (fun K hK => ?_); go_simp; split <;> (rename_i hg; refine hK _ ?_; clear hK K; simp only [hg, decide_true, decide_false]))))
                      all_goals (refine wpQuiet_nil ?_; intro x)
                      go_wp2
                      go_roundw
                      case rel => exact ⟨k + 1, h, by omega, rfl, by go_num, hc2, hF.cl x⟩
                      case measure => simp [intOf]; omega
                    · have dB : decide (RIn yf yb f b) = false := by simp [hi]
                      have hc2 : Hid (false = true ↔ Small (T.take (k + 1)) (f, b, g) a) := by show _ ↔ _; rw [hst.out, ← hc.out]; simp [hi]
                      clear he hi hh
                      go_wp2
                      first | refine wp_region_new (by kernel_rfl) (by kernel_rfl) ?_ | refine wp_region_lex ?_
                      repeat (any_goals (first | go_big_quiet_step ((first | (go_at_call 21; exact Calls.cl (hRH.out _)) | (go_at_call 22; exact Calls.cl (iRangeIn_any _ _ _ _ _)))) | (refine wpQuiet_step (fun K hK => ?_); go_simp; split <;> (rename_i hg; refine hK _ ?_; clear hK K; simp only [hg, decide_true, decide_false]))))
                      all_goals (refine wpQuiet_nil ?_; intro x)
                      go_wp2
                      go_roundw
                      case rel => exact ⟨k + 1, false, by omega, rfl, by go_num, hc2, hF.cl x⟩
                      case measure => simp [intOf]; omega
                · have hm2 : Hid (Small (T.take (k + 1)) (f, b, g) a) := by
                    show Small (T.take (k + 1)) (f, b, g) a
                    rw [hst.out, ← hc.out]; exact Or.inl rfl
                  clear d3 d4 d5 d6
                  go_wp2
                  first | refine wp_region_new (by kernel_rfl) (by kernel_rfl) ?_ | refine wp_region_lex ?_
                  repeat (any_goals (first | go_big_quiet_step ((fail)) | (refine wpQuiet_step (fun K hK => ?_); go_simp; split <;> (rename_i hg; refine hK _ ?_; clear hK K; simp only [hg, decide_true, decide_false]))))
                  all_goals (refine wpQuiet_nil ?_; intro x)
                  go_wp2
                  go_roundw
                  case rel => exact ⟨k + 1, true, by omega, rfl, by go_num, ⟨fun _ => hm2.out, fun _ => rfl⟩, hF.cl x⟩
                  case measure => simp [intOf]; omega
            · have hS : Hid (c = true ↔ Small T (f, b, g) a) := by
                have := hc.out
                rwa [List.take_of_length_le (by rw [hn.out]; omega)] at this
              obtain ⟨P, hP⟩ : ∃ P, fnd T a = P := ⟨_, rfl⟩
              obtain ⟨R, hR⟩ : ∃ R, fnd X a = R := ⟨_, rfl⟩
              have hPP : (P != P) = false := by simp
              have hgg : (g != g) = false := by simp
              have C1 := Lib.hid (fun v w (h : Ents w v T) => (show Calls Try.prog 19 #[v, .int .i64 (a : Int)] w fun e w' => e = .returned (.int .i64 P) ∧ Below w.heap.size w w' from by have := iTableFind_any v T a w h; rwa [fnd_t hok.out.1 hlt, hP] at this))
              have C2 := Lib.hid (fun w h => (show Calls Try.prog 19 #[vx2, .int .i64 (a : Int)] w fun e w' => e = .returned (.int .i64 R) ∧ Below w.heap.size w w' from by have := iTableFind_any vx2 X a w h; rwa [fnd_t hXok.out hlt, hR] at this))
              have hres : Hid (R = if RHas f b (a : Int) ∧ c = false then g else P) := by
                show R = _
                rw [← hR, ← hP, hXi.out]
                split
                · rename_i h
                  exact fnd_yes hok.out.1 hok.out.2.1 hok.out.2.2.1 hlt h.1 (fun q => by have := hS.out.2 q; rw [this] at h; cases h.2)
                · rename_i h
                  exact fnd_no hok.out.1 hok.out.2.1 hok.out.2.2.1 hlt (fun q => h ⟨q.1, by rw [Bool.eq_false_iff]; exact fun z => q.2 (hS.out.1 z)⟩)
              have f0 := hF.old E0.out
              have f1 := hF.old E1.out
              have f2 := hF.old E2.out
              clear hP hR
              go_wp2_with fail
              refine (C1.out _ _ (HV.out.below hF.kp).1).mono ?_; rintro e wx ⟨rfl, hbx⟩
              replace hF := hF.below hbx
              clear hbx f0 f1 f2
              have f0 := hF.old E0.out
              have f1 := hF.old E1.out
              have f2 := hF.old E2.out
              obtain ⟨h, hh⟩ : ∃ h, decide (RHas f b (a : Int)) = h := ⟨_, rfl⟩
              have hRH := Lib.hid (fun w => (show Calls Try.prog 21 #[.agg #[.int .i64 f, .int .i64 b], .int .i64 (a : Int)] w fun e w' => e = .returned (.bool h) ∧ Below w.heap.size w w' from by have := iRangeHas_any f b a w; rw [hh] at this; exact this))
              cases h
              · have hRP := hres.out
                rw [if_neg (by intro q; simp [q.1] at hh)] at hRP
                clear hres
                subst hRP
                clear hh
                go_wp2_with (first | (go_at_call 21; go_must (refine (hRH.out _).mono ?_); rintro e wx ⟨rfl, hbx⟩; replace hF := hF.below hbx; clear hbx) | (go_at_call 19; go_must (refine (C2.out _ (HU.out.below hF.kp).1).mono ?_); rintro e wx ⟨rfl, hbx⟩; replace hF := hF.below hbx; clear hbx))
                go_roundw
                case rel => exact ⟨a + 1, by omega, by go_num, hF⟩
                case measure => simp [intOf]; omega
              · cases c
                · have hRP := hres.out
                  rw [if_pos ⟨of_decide_eq_true hh, rfl⟩] at hRP
                  clear hres
                  subst hRP
                  clear hh
                  go_wp2_with (first | (go_at_call 21; go_must (refine (hRH.out _).mono ?_); rintro e wx ⟨rfl, hbx⟩; replace hF := hF.below hbx; clear hbx f0 f1 f2; have f2 := hF.old E2.out) | (go_at_call 19; go_must (refine (C2.out _ (HU.out.below hF.kp).1).mono ?_); rintro e wx ⟨rfl, hbx⟩; replace hF := hF.below hbx; clear hbx f2))
                  go_roundw
                  case rel => exact ⟨a + 1, by omega, by go_num, hF⟩
                  case measure => simp [intOf]; omega
                · have hRP := hres.out
                  rw [if_neg (by intro q; cases q.2)] at hRP
                  clear hres
                  subst hRP
                  clear hh
                  go_wp2_with (first | (go_at_call 21; go_must (refine (hRH.out _).mono ?_); rintro e wx ⟨rfl, hbx⟩; replace hF := hF.below hbx; clear hbx) | (go_at_call 19; go_must (refine (C2.out _ (HU.out.below hF.kp).1).mono ?_); rintro e wx ⟨rfl, hbx⟩; replace hF := hF.below hbx; clear hbx))
                  go_roundw
                  case rel => exact ⟨a + 1, by omega, by go_num, hF⟩
                  case measure => simp [intOf]; omega
        · obtain rfl : a = 256 := by omega
          have hU2 := HU.out.below hF.kp
          go_wp2_with ((go_at_call 16; go_must (refine (iTableOk_any _ X _ hU2.1).mono ?_); rintro e wx ⟨rfl, hbx⟩; replace hF := hF.below hbx; (try replace hV := hV.below hbx); (try replace hU1 := hU1.below hbx); (try replace hU2 := hU2.below hbx); (try replace hU3 := hU3.below hbx); clear hbx; (try clear o); have o := hF.own; simp only [World.size_alloc, World.size_drew, World.size_setCell, List.mem_cons, List.not_mem_nil, or_false, forall_eq_or_imp, forall_eq, At, and_true, Nat.zero_add, Nat.reduceAdd, List.set_cons_zero, List.set_cons_succ] at o))
          go_ret
          exact ⟨rfl, (HF.out.below hF.kp).kp⟩
end Go.Proofs.Ytbhenfegklgkoaa
