/- Law on dropping: FnTableDrop. -/
import Derived.Test.YtbhenfegklgkoaaTw
import Derived.Test.YtbhenfegklgkoaaTp
set_option linter.unusedSimpArgs false
set_option linter.unusedVariables false
namespace Go.Proofs.Ytbhenfegklgkoaa
open Go.RowKit

theorem srt_uniq {T : List Ent} (h : Srt T) {x y : Ent} (hx : x ∈ T) (hy : y ∈ T) (he : ecmp x y = 0) : x = y := by
  obtain ⟨i, hi, ex⟩ := List.getElem_of_mem hx
  obtain ⟨j, hj, ey⟩ := List.getElem_of_mem hy
  by_cases hij : i = j
  · subst hij; rw [← ex, ← ey]
  · exact absurd he (srt_ne h (by rw [List.getElem?_eq_getElem hi, ex]) (by rw [List.getElem?_eq_getElem hj, ey]) hij)
theorem ins_drp {T : List Ent} {x : Ent} (h : Srt T) (hx : x ∈ T) : ins x (drp T (x.1, x.2.1)) = T := by
  refine srt_ext (ins_srt (drp_srt h _)) h fun y => ?_
  rw [ins_mem (drp_srt h _), drp_mem]
  constructor
  · rintro (rfl | h1)
    · exact hx
    · exact h1.1.1
  · intro hy
    by_cases he : ecmp y x = 0
    · exact Or.inl (srt_uniq h hy hx he)
    · exact Or.inr ⟨⟨hy, fun g => he (by rw [eq_iff]; exact g)⟩, he⟩
theorem put_back {T : List Ent} {x : Ent} (h : TOk T) (hx : x ∈ T) : tput (drp T (x.1, x.2.1)) x = (T, true) := by
  rw [tput_yes (drp_tok h _) (tok_ep h hx), ins_drp (tok_srt h) hx, if_neg (by have := h.2; omega)]
theorem drp_less {T : List Ent} {x : Ent} (h : Srt T) {k : Nat} (hx : T[k]? = some x) : (drp T (x.1, x.2.1)).length + 1 = T.length := by
  have hk := (List.getElem?_eq_some_iff.1 hx).1
  rw [drp_at h hx (by rw [eq_iff]; exact ⟨rfl, rfl⟩), List.length_append, List.length_take, List.length_drop]
  omega
set_option maxHeartbeats 4000000 in
theorem FnTableDrop_walk (a0 : Option Addr) (n0 c0 : Nat) (w : World) (h0 : Given w (.slice a0 n0 c0)) :
    Calls Try.prog 11 #[.slice a0 n0 c0] w fun e w' => e = .returned (.bool true) ∧ Below w.heap.size w w' := by
  by_cases hn0 : 1048576 < n0
  · have e0 : decide (1048576 < (n0 : Int)) = true := by simp; omega
    go_enter Try.func11, Try.ntmps11
    go_wp2
    go_ret
    exact ⟨rfl, Below.refl _ _⟩
  have e0 : decide (1048576 < (n0 : Int)) = false := by simp; omega
  have hF := Fb.start w
  go_enter Try.func11, Try.ntmps11
  go_wp2_with fail
  refine (drawTableDrop_any _ _ h0).mono ?_; rintro e w1 ⟨v, T, f, b, rfl, hV, hT, hb1⟩
  replace hF := hF.below hb1
  clear hb1 h0
  go_wp2_with fail
  replace hF := hF.alloc [.int .i64 f, .int .i64 b] 27
  replace hV := hV.alloc (.cells #[.int .i64 f, .int .i64 b] 27)
  generalize hbe : w1.heap.size = be at *
  obtain ⟨X, q, hX⟩ : ∃ X q, tdrp T (f, b) = (X, q) := ⟨_, _, rfl⟩
  have HX := Lib.hid hX
  have c1 := sTableDrop_any v T f b _ hV (by omega)
  rw [hX] at c1
  refine c1.mono ?_; rintro e w2 ⟨u1, rfl, hO1, hb2⟩
  clear c1
  replace hF := hF.below hb2
  replace hV := hV.below hb2
  have hU1 : Tb w2 u1 X := hO1.tb
  clear hb2 hO1
  have o := hF.own; simp only [World.size_alloc, World.size_drew, World.size_setCell, List.mem_cons, List.not_mem_nil, or_false, forall_eq_or_imp, forall_eq, At, and_true, Nat.zero_add, Nat.reduceAdd, List.set_cons_zero, List.set_cons_succ] at o
  go_wp2_with fail
  have c1 := iTableDrop_any v T f b _ hV
  rw [hX] at c1
  refine c1.mono ?_; rintro e w3 ⟨u2, rfl, hO2, hb3⟩
  clear c1 hX
  replace hF := hF.below hb3
  replace hV := hV.below hb3
  replace hU1 := hU1.below hb3
  have hU2 := hO2.tb
  clear hb3 hO2 o
  have o := hF.own; simp only [World.size_alloc, World.size_drew, World.size_setCell, List.mem_cons, List.not_mem_nil, or_false, forall_eq_or_imp, forall_eq, At, and_true, Nat.zero_add, Nat.reduceAdd, List.set_cons_zero, List.set_cons_succ] at o
  have hqq : (q != q) = false := by simp
  have hqe : (q == q) = true := by simp
  by_cases h1 : TOk T ∧ ROk f b
  · obtain ⟨h1, h2⟩ := h1
    have d1 : decide (TOk T) = true := by simp [h1]
    have d2 : decide (ROk f b) = true := by simp [h2]
    have HT := Lib.hid h1
    have hq : Hid (X = drp T (f, b) ∧ q = decide ((drp T (f, b)).length < T.length)) := by
      have := HX.out
      rw [tdrp_yes h1 h2] at this
      injection this with e1 e2
      exact ⟨e1.symm, e2.symm⟩
    have hXok : Hid (decide (TOk X) = true) := by
      show _ = _
      rw [hq.out.1]; exact decide_eq_true (drp_tok h1 _)
    have hT12 := h1.2
    clear h1 h2
    obtain ⟨al, m, cl, rfl, hm⟩ := hU2.sl
    obtain ⟨n, cap, hn, hnc, hcap, hv'⟩ := hV.1.cases
    have hn12 : n ≤ 12 := by have := hn.out; omega
    rcases hv' with ⟨hn0, ao, rfl⟩ | ⟨hn0, b0, off, rfl, hc⟩
    · obtain rfl : n = 0 := by omega
      have hT0 : Hid (T = []) := List.length_eq_zero_iff.1 hn.out
      have hqf : q = false := by rw [hq.out.2, hT0.out]; rfl
      have hXT : X = T := by rw [hq.out.1, hT0.out]; rfl
      subst hqf; subst hXT
      go_wp2_with (first | (go_at_call 30; go_must (refine (lyTable_same _ _ X _ hU2.1 hU1.1).mono ?_); rintro e wx ⟨rfl, hbx⟩; replace hF := hF.below hbx; (try replace hV := hV.below hbx); (try replace hU1 := hU1.below hbx); (try replace hU2 := hU2.below hbx); (try replace hU3 := hU3.below hbx); clear hbx; (try clear o); have o := hF.own; simp only [World.size_alloc, World.size_drew, World.size_setCell, List.mem_cons, List.not_mem_nil, or_false, forall_eq_or_imp, forall_eq, At, and_true, Nat.zero_add, Nat.reduceAdd, List.set_cons_zero, List.set_cons_succ] at o) | (go_at_call 17; go_must (refine (sTableOk_any _ X _ hV.1).mono ?_); rintro e wx ⟨rfl, hbx⟩; replace hF := hF.below hbx; (try replace hV := hV.below hbx); (try replace hU1 := hU1.below hbx); (try replace hU2 := hU2.below hbx); (try replace hU3 := hU3.below hbx); clear hbx; (try clear o); have o := hF.own; simp only [World.size_alloc, World.size_drew, World.size_setCell, List.mem_cons, List.not_mem_nil, or_false, forall_eq_or_imp, forall_eq, At, and_true, Nat.zero_add, Nat.reduceAdd, List.set_cons_zero, List.set_cons_succ] at o) | (go_at_call 38; go_must (refine (sRangeOk_any _ _ _).mono ?_); rintro e wx ⟨rfl, hbx⟩; replace hF := hF.below hbx; (try replace hV := hV.below hbx); (try replace hU1 := hU1.below hbx); (try replace hU2 := hU2.below hbx); (try replace hU3 := hU3.below hbx); clear hbx; (try clear o); have o := hF.own; simp only [World.size_alloc, World.size_drew, World.size_setCell, List.mem_cons, List.not_mem_nil, or_false, forall_eq_or_imp, forall_eq, At, and_true, Nat.zero_add, Nat.reduceAdd, List.set_cons_zero, List.set_cons_succ] at o))
      obtain ⟨wa, rfl⟩ : ∃ wa : World, wa = wx := ⟨_, rfl⟩
      go_loopw [9] (fun s9 wr => s9 = .int .i64 0 ∧ wr = wa) (fun _ _ => 0)
      case atStart => exact ⟨rfl, rfl⟩
      case round =>
        obtain ⟨rfl, rfl⟩ := hrel
        go_wp2_with ((go_at_call 30; go_must (refine (lyTable_same _ _ X _ hU2.1 hV.1).mono ?_); rintro e wx ⟨rfl, hbx⟩; replace hF := hF.below hbx; (try replace hV := hV.below hbx); (try replace hU1 := hU1.below hbx); (try replace hU2 := hU2.below hbx); (try replace hU3 := hU3.below hbx); clear hbx; (try clear o); have o := hF.own; simp only [World.size_alloc, World.size_drew, World.size_setCell, List.mem_cons, List.not_mem_nil, or_false, forall_eq_or_imp, forall_eq, At, and_true, Nat.zero_add, Nat.reduceAdd, List.set_cons_zero, List.set_cons_succ] at o))
        go_ret
        exact ⟨rfl, hF.kp⟩
    · clear hc
      go_wp2_with (first | (go_at_call 30; go_must (refine (lyTable_same _ _ X _ hU2.1 hU1.1).mono ?_); rintro e wx ⟨rfl, hbx⟩; replace hF := hF.below hbx; (try replace hV := hV.below hbx); (try replace hU1 := hU1.below hbx); (try replace hU2 := hU2.below hbx); (try replace hU3 := hU3.below hbx); clear hbx; (try clear o); have o := hF.own; simp only [World.size_alloc, World.size_drew, World.size_setCell, List.mem_cons, List.not_mem_nil, or_false, forall_eq_or_imp, forall_eq, At, and_true, Nat.zero_add, Nat.reduceAdd, List.set_cons_zero, List.set_cons_succ] at o) | (go_at_call 17; go_must (refine (sTableOk_any _ T _ hV.1).mono ?_); rintro e wx ⟨rfl, hbx⟩; replace hF := hF.below hbx; (try replace hV := hV.below hbx); (try replace hU1 := hU1.below hbx); (try replace hU2 := hU2.below hbx); (try replace hU3 := hU3.below hbx); clear hbx; (try clear o); have o := hF.own; simp only [World.size_alloc, World.size_drew, World.size_setCell, List.mem_cons, List.not_mem_nil, or_false, forall_eq_or_imp, forall_eq, At, and_true, Nat.zero_add, Nat.reduceAdd, List.set_cons_zero, List.set_cons_succ] at o) | (go_at_call 38; go_must (refine (sRangeOk_any _ _ _).mono ?_); rintro e wx ⟨rfl, hbx⟩; replace hF := hF.below hbx; (try replace hV := hV.below hbx); (try replace hU1 := hU1.below hbx); (try replace hU2 := hU2.below hbx); (try replace hU3 := hU3.below hbx); clear hbx; (try clear o); have o := hF.own; simp only [World.size_alloc, World.size_drew, World.size_setCell, List.mem_cons, List.not_mem_nil, or_false, forall_eq_or_imp, forall_eq, At, and_true, Nat.zero_add, Nat.reduceAdd, List.set_cons_zero, List.set_cons_succ] at o))
      obtain ⟨wa, rfl⟩ : ∃ wa : World, wa = wx := ⟨_, rfl⟩
      have HV := Lib.hid hV
      have HU := Lib.hid hU2
      have HF := Lib.hid hF
      have E0 := Lib.hid o.1.1
      have E1 := Lib.hid o.1.2.2.1
      clear hV hU2 hU1 hF o
      go_loopw [9] (fun s9 wr => ∃ k : Nat, k ≤ n ∧ s9 = .int .i64 k ∧ Hid (∀ x ∈ T.take k, ¬ (x.1 = f ∧ x.2.1 = b)) ∧ Fb wa wr []) (fun s9 _ => n - (intOf s9).toNat)
      case atStart => exact ⟨0, Nat.zero_le _, rfl, Lib.hid (fun x hx => by simp at hx), Fb.start wa⟩
      case round =>
        obtain ⟨k, hk, rfl, hno, hF⟩ := hrel
        by_cases hlt : k < n
        · obtain ⟨y, hy⟩ := get_of hn.out hlt
          have HY := Lib.hid hy
          have p0 := HV.out.1.get hy (j := 0) rfl
          have p1 := HV.out.1.get hy (j := 1) rfl
          have p2 := HV.out.1.get hy (j := 2) rfl
          clear hy
          obtain ⟨yf, yb, yv⟩ := y
          dsimp only [Nat.add_zero] at p0 p1 p2
          have d3 := fun z : Cl wr.heap.size wr => Cl.old hF z p0
          have d4 := fun z : Cl wr.heap.size wr => Cl.old hF z p1
          have d5 := fun z : Cl wr.heap.size wr => Cl.old hF z E0.out
          have d6 := fun z : Cl wr.heap.size wr => Cl.old hF z E1.out
          have P0 := Lib.hid p0
          have P1 := Lib.hid p1
          have P2 := Lib.hid p2
          clear p0 p1 p2
          by_cases he : yf = f ∧ yb = b
          · have heql : ∀ w, (binOp .eql 27 (.agg #[.int .i64 yf, .int .i64 yb]) (.agg #[.int .i64 f, .int .i64 b])).run Try.prog w = .ok (.bool true) w := fun w => by rw [rng_eql, he.1, he.2]; simp
            have hl := drp_less (tok_srt HT.out) HY.out
            have hpb := put_back HT.out (List.mem_of_getElem? HY.out)
            dsimp only at hl hpb
            rw [he.1, he.2, ← hq.out.1] at hpb
            rw [he.1, he.2] at hl
            have hqt : q = true := by rw [hq.out.2]; exact decide_eq_true (by omega)
            have hmn : (m : Int) = (n : Int) - 1 := by
              have := hn.out; have := hm.out; rw [hq.out.1] at this; omega
            have hmb : ((m : Int) == (n : Int) - 1) = true := by simp [hmn]
            have CP := Lib.hid (fun w' h => (show Calls Try.prog 29 #[.slice al m cl, .agg #[.int .i64 yf, .int .i64 yb, .int .i64 yv]] w' fun e w'' => ∃ u, e = .returned (.tuple #[u, .bool true]) ∧ Own 29 w'' w'.heap.size u 3 encE T ∧ Below w'.heap.size w' w'' from by
              have := iTablePut_any (.slice al m cl) X yf yb yv w' h
              rw [he.1, he.2] at this ⊢
              rwa [hpb] at this))
            have hXt := hXok.out
            clear hl hpb he hmn hXok
            subst hqt
            go_wp2
            first | refine wp_region_new (by kernel_rfl) (by kernel_rfl) ?_ | refine wp_region_lex ?_
            repeat (any_goals (first | go_big_quiet_step ((fail)) | (refine wpQuiet_step (fun K hK => ?_); go_simp; split <;> (rename_i hg; refine hK _ ?_; clear hK K; simp only [hg, decide_true, decide_false]))))
            all_goals (refine wpQuiet_nil ?_; intro x)
            have hF2 := hF.cl x
            have q0 := hF2.old P0.out
            have q1 := hF2.old P1.out
            have q2 := hF2.old P2.out
            go_wp2_with fail
            refine (CP.out _ (HU.out.below hF2.kp)).mono ?_; rintro e wy ⟨u3, rfl, hO3, hby⟩
            clear q0 q1 q2
            replace hF := hF2.below hby
            have hU3 := hO3.tb
            clear hF2 hO3 hby
            have hV := HV.out.below hF.kp
            have hU2 := HU.out.below hF.kp
            go_wp2_with (first | (go_at_call 30; go_must (refine (lyTable_same _ _ T _ hU3.1 hV.1).mono ?_); rintro e wx ⟨rfl, hbx⟩; replace hF := hF.below hbx; (try replace hV := hV.below hbx); (try replace hU1 := hU1.below hbx); (try replace hU2 := hU2.below hbx); (try replace hU3 := hU3.below hbx); clear hbx; (try clear o); have o := hF.own; simp only [World.size_alloc, World.size_drew, World.size_setCell, List.mem_cons, List.not_mem_nil, or_false, forall_eq_or_imp, forall_eq, At, and_true, Nat.zero_add, Nat.reduceAdd, List.set_cons_zero, List.set_cons_succ] at o) | (go_at_call 16; go_must (refine (iTableOk_any _ X _ hU2.1).mono ?_); rintro e wx ⟨rfl, hbx⟩; replace hF := hF.below hbx; (try replace hV := hV.below hbx); (try replace hU1 := hU1.below hbx); (try replace hU2 := hU2.below hbx); (try replace hU3 := hU3.below hbx); clear hbx; (try clear o); have o := hF.own; simp only [World.size_alloc, World.size_drew, World.size_setCell, List.mem_cons, List.not_mem_nil, or_false, forall_eq_or_imp, forall_eq, At, and_true, Nat.zero_add, Nat.reduceAdd, List.set_cons_zero, List.set_cons_succ] at o))
            go_ret
            exact ⟨rfl, (HF.out.below hF.kp).kp⟩
          · have heql : ∀ w, (binOp .eql 27 (.agg #[.int .i64 yf, .int .i64 yb]) (.agg #[.int .i64 f, .int .i64 b])).run Try.prog w = .ok (.bool false) w := fun w => by
              rw [rng_eql]
              have : (yf == f && yb == b) = false := by
                rw [Bool.eq_false_iff]; intro g; simp at g; exact he g
              rw [this]
            have hno2 : Hid (∀ x ∈ T.take (k + 1), ¬ (x.1 = f ∧ x.2.1 = b)) := Lib.hid (fun x hx => by
              rcases (mem_step HY.out).1 hx with h1 | rfl
              · exact hno.out x h1
              · exact he)
            clear he
            go_wp2
            first | refine wp_region_new (by kernel_rfl) (by kernel_rfl) ?_ | refine wp_region_lex ?_
            repeat (any_goals (first | go_big_quiet_step ((fail)) | (refine wpQuiet_step (fun K hK => ?_); go_simp; split <;> (rename_i hg; refine hK _ ?_; clear hK K; simp only [hg, decide_true, decide_false]))))
            all_goals (refine wpQuiet_nil ?_; intro x)
            go_wp2
            go_roundw
            case rel => exact ⟨k + 1, by omega, by go_num, hno2, hF.cl x⟩
            case measure => simp [intOf]; omega
        · have hdn : Hid (drp T (f, b) = T) := drp_none fun x hx g => hno.out x (by rw [List.take_of_length_le (by rw [hn.out]; omega)]; exact hx) (by rw [eq_iff] at g; exact g)
          have hqf : q = false := by rw [hq.out.2, hdn.out]; simp
          have hXT : X = T := by rw [hq.out.1, hdn.out]
          subst hqf; subst hXT
          have hV := HV.out.below hF.kp
          have hU2 := HU.out.below hF.kp
          go_wp2_with ((go_at_call 30; go_must (refine (lyTable_same _ _ X _ hU2.1 hV.1).mono ?_); rintro e wx ⟨rfl, hbx⟩; replace hF := hF.below hbx; (try replace hV := hV.below hbx); (try replace hU1 := hU1.below hbx); (try replace hU2 := hU2.below hbx); (try replace hU3 := hU3.below hbx); clear hbx; (try clear o); have o := hF.own; simp only [World.size_alloc, World.size_drew, World.size_setCell, List.mem_cons, List.not_mem_nil, or_false, forall_eq_or_imp, forall_eq, At, and_true, Nat.zero_add, Nat.reduceAdd, List.set_cons_zero, List.set_cons_succ] at o))
          go_ret
          exact ⟨rfl, (HF.out.below hF.kp).kp⟩
  · have hq : Hid (q = false) := by
      have := HX.out
      rw [tdrp_no h1] at this
      injection this with e1 e2
      exact e2.symm
    have hds : decide (TOk T) = false ∨ decide (TOk T) = true ∧ decide (ROk f b) = false := by
      by_cases h2 : TOk T
      · right; exact ⟨by simp [h2], by simp; exact fun g => h1 ⟨h2, g⟩⟩
      · left; simp [h2]
    clear h1
    obtain d1 | ⟨d1, d2⟩ := hds
    all_goals
      go_wp2_with (first | (go_at_call 30; go_must (refine (lyTable_same _ _ X _ hU2.1 hU1.1).mono ?_); rintro e wx ⟨rfl, hbx⟩; replace hF := hF.below hbx; (try replace hV := hV.below hbx); (try replace hU1 := hU1.below hbx); (try replace hU2 := hU2.below hbx); (try replace hU3 := hU3.below hbx); clear hbx; (try clear o); have o := hF.own; simp only [World.size_alloc, World.size_drew, World.size_setCell, List.mem_cons, List.not_mem_nil, or_false, forall_eq_or_imp, forall_eq, At, and_true, Nat.zero_add, Nat.reduceAdd, List.set_cons_zero, List.set_cons_succ] at o) | (go_at_call 17; go_must (refine (sTableOk_any _ T _ hV.1).mono ?_); rintro e wx ⟨rfl, hbx⟩; replace hF := hF.below hbx; (try replace hV := hV.below hbx); (try replace hU1 := hU1.below hbx); (try replace hU2 := hU2.below hbx); (try replace hU3 := hU3.below hbx); clear hbx; (try clear o); have o := hF.own; simp only [World.size_alloc, World.size_drew, World.size_setCell, List.mem_cons, List.not_mem_nil, or_false, forall_eq_or_imp, forall_eq, At, and_true, Nat.zero_add, Nat.reduceAdd, List.set_cons_zero, List.set_cons_succ] at o) | (go_at_call 38; go_must (refine (sRangeOk_any _ _ _).mono ?_); rintro e wx ⟨rfl, hbx⟩; replace hF := hF.below hbx; (try replace hV := hV.below hbx); (try replace hU1 := hU1.below hbx); (try replace hU2 := hU2.below hbx); (try replace hU3 := hU3.below hbx); clear hbx; (try clear o); have o := hF.own; simp only [World.size_alloc, World.size_drew, World.size_setCell, List.mem_cons, List.not_mem_nil, or_false, forall_eq_or_imp, forall_eq, At, and_true, Nat.zero_add, Nat.reduceAdd, List.set_cons_zero, List.set_cons_succ] at o))
      go_ret
      exact ⟨rfl, hF.kp⟩
end Go.Proofs.Ytbhenfegklgkoaa
