/- Laws on putting: FnPutSame, FnPutOrder. -/
import Derived.Test.YtbhenfegklgkoaaTs
set_option linter.unusedSimpArgs false
set_option linter.unusedVariables false
namespace Go.Proofs.Ytbhenfegklgkoaa
open Go.RowKit

theorem ins_ins {T : List Ent} {e : Ent} (h : Srt T) : ins e (ins e T) = ins e T := by
  refine srt_ext (ins_srt (ins_srt h)) (ins_srt h) fun y => ?_
  rw [ins_mem (ins_srt h), ins_mem h]
  constructor
  · rintro (h1 | ⟨h1 | h1, h2⟩)
    · exact Or.inl h1
    · exact Or.inl h1
    · exact Or.inr h1
  · rintro (h1 | h1)
    · exact Or.inl h1
    · exact Or.inr ⟨Or.inr h1, h1.2⟩
theorem ins_comm {T : List Ent} {e f : Ent} (h : Srt T) (hef : ecmp e f ≠ 0) : ins f (ins e T) = ins e (ins f T) := by
  refine srt_ext (ins_srt (ins_srt h)) (ins_srt (ins_srt h)) fun y => ?_
  rw [ins_mem (ins_srt h), ins_mem h, ins_mem (ins_srt h), ins_mem h]
  have hfe : ecmp f e ≠ 0 := fun g => hef (eq_symm.1 g)
  constructor
  · rintro (rfl | ⟨rfl | h1, h2⟩)
    · exact Or.inr ⟨Or.inl rfl, hfe⟩
    · exact Or.inl rfl
    · exact Or.inr ⟨Or.inr ⟨h1.1, h2⟩, h1.2⟩
  · rintro (rfl | ⟨rfl | h1, h2⟩)
    · exact Or.inr ⟨Or.inl rfl, hef⟩
    · exact Or.inl rfl
    · exact Or.inr ⟨Or.inr ⟨h1.1, h2⟩, h1.2⟩
theorem ins_over {T : List Ent} {e f : Ent} (h : Srt T) (hef : ecmp e f = 0) : ins f (ins e T) = ins f T := by
  refine srt_ext (ins_srt (ins_srt h)) (ins_srt h) fun y => ?_
  rw [ins_mem (ins_srt h), ins_mem h, ins_mem h]
  have hy : ecmp y e = 0 ↔ ecmp y f = 0 := by rw [eq_iff] at hef; rw [eq_iff, eq_iff]; omega
  constructor
  · rintro (rfl | ⟨rfl | h1, h2⟩)
    · exact Or.inl rfl
    · exact absurd hef h2
    · exact Or.inr ⟨h1.1, h2⟩
  · rintro (rfl | ⟨h1, h2⟩)
    · exact Or.inl rfl
    · exact Or.inr ⟨Or.inr ⟨h1, fun g => h2 (hy.1 g)⟩, h2⟩
theorem tput_again {T : List Ent} {e : Ent} (h : (tput T e).2 = true) : tput (tput T e).1 e = ((tput T e).1, true) := by
  obtain ⟨h1, h2, h3, h4, h5⟩ := tput_ok h
  rw [h4]
  show tput (ins e T) e = _
  rw [tput_yes h5 h2, ins_ins (tok_srt h1), if_neg (by omega)]
theorem tput_has {T : List Ent} {e : Ent} (h : (tput T e).2 = true) : e ∈ (tput T e).1 := by
  obtain ⟨h1, h2, h3, h4, h5⟩ := tput_ok h
  rw [h4]; exact (ins_mem (tok_srt h1)).2 (Or.inl rfl)
theorem tput_two {T : List Ent} {e f : Ent} (h : (tput T e).2 = true) (h1 : (tput (tput T e).1 f).2 = true) (h2 : (tput T f).2 = true) (h3 : (tput (tput T f).1 e).2 = true) : (ecmp e f = 0 → (tput (tput T e).1 f).1 = (tput T f).1) ∧ (ecmp e f ≠ 0 → (tput (tput T e).1 f).1 = (tput (tput T f).1 e).1) := by
  have a := tput_ok h
  have b := tput_ok h1
  have c := tput_ok h2
  have d := tput_ok h3
  rw [b.2.2.2.1, a.2.2.2.1, d.2.2.2.1, c.2.2.2.1]
  exact ⟨fun g => ins_over (tok_srt a.1) g, fun g => ins_comm (tok_srt a.1) g⟩
theorem mem_step {α : Type} {L : List α} {k : Nat} {x y : α} (h : L[k]? = some y) : x ∈ L.take (k + 1) ↔ x ∈ L.take k ∨ x = y := by
  rw [List.take_add_one, h]; simp
set_option maxHeartbeats 4000000 in
theorem FnPutSame_walk (a0 : Option Addr) (n0 c0 : Nat) (w : World) (h0 : Given w (.slice a0 n0 c0)) :
    Calls Try.prog 7 #[.slice a0 n0 c0] w fun e w' => e = .returned (.bool true) ∧ Below w.heap.size w w' := by
  by_cases hn0 : 1048576 < n0
  · have e0 : decide (1048576 < (n0 : Int)) = true := by simp; omega
    go_enter Try.func7, Try.ntmps7
    go_wp2
    go_ret
    exact ⟨rfl, Below.refl _ _⟩
  have e0 : decide (1048576 < (n0 : Int)) = false := by simp; omega
  have hF := Fb.start w
  go_enter Try.func7, Try.ntmps7
  go_wp2_with fail
  refine (drawTablePut_any _ _ h0).mono ?_; rintro e w1 ⟨v, T, f, b, g, rfl, hV, hT, hb1⟩
  replace hF := hF.below hb1
  clear hb1 h0
  go_wp2_with fail
  replace hF := hF.alloc [.int .i64 f, .int .i64 b, .int .i64 g] 29
  replace hV := hV.alloc (.cells #[.int .i64 f, .int .i64 b, .int .i64 g] 29)
  generalize hbe : w1.heap.size = be at *
  obtain ⟨X, q, hX⟩ : ∃ X q, tput T (f, b, g) = (X, q) := ⟨_, _, rfl⟩
  have hag := Lib.hid (fun h => tput_again (T := T) (e := (f, b, g)) h)
  have hhs := Lib.hid (fun h => tput_has (T := T) (e := (f, b, g)) h)
  have c1 := sTablePut_any v T f b g _ hV (by omega)
  rw [hX] at c1 hag hhs
  refine c1.mono ?_; rintro e w2 ⟨u1, rfl, hO1, hb2⟩
  clear c1
  replace hF := hF.below hb2
  replace hV := hV.below hb2
  have hU1 : Tb w2 u1 X := hO1.tb
  clear hb2 hO1
  have o := hF.own; simp only [World.size_alloc, World.size_drew, World.size_setCell, List.mem_cons, List.not_mem_nil, or_false, forall_eq_or_imp, forall_eq, At, and_true, Nat.zero_add, Nat.reduceAdd, List.set_cons_zero, List.set_cons_succ] at o
  go_wp2_with fail
  have c1 := iTablePut_any v T f b g _ hV
  rw [hX] at c1
  refine c1.mono ?_; rintro e w3 ⟨u2, rfl, hO2, hb3⟩
  clear c1 hX
  replace hF := hF.below hb3
  replace hU1 := hU1.below hb3
  clear hb3 hV o
  have o := hF.own; simp only [World.size_alloc, World.size_drew, World.size_setCell, List.mem_cons, List.not_mem_nil, or_false, forall_eq_or_imp, forall_eq, At, and_true, Nat.zero_add, Nat.reduceAdd, List.set_cons_zero, List.set_cons_succ] at o
  have hly := Lib.hid (fun w h1 h2 => (show Calls Try.prog 30 #[u2, u1] w fun e w' => e = .returned (.bool true) ∧ Below w.heap.size w w' from by have := lyTable_any u2 u1 X X w h1 h2; rwa [decide_eq_true rfl] at this))
  have hqq : (q != q) = false := by simp
  have hqe : (q == q) = true := by simp
  cases q
  · go_wp2_with (go_at_call 30; go_must (refine (hly.out _ hO2.tb.1 hU1.1).mono ?_); rintro e wx ⟨rfl, hbx⟩; replace hF := hF.below hbx; replace hU1 := hU1.below hbx; replace hO2 := hO2.below hbx; clear hbx)
    go_ret
    exact ⟨rfl, hF.kp⟩
  · replace hag := hag.out rfl
    replace hhs := hhs.out rfl
    have HA := Lib.hid hag
    have HM := Lib.hid hhs
    clear hag hhs
    obtain ⟨n, hn⟩ : ∃ n, Hid (X.length = n) := ⟨_, rfl⟩
    have hpos : 0 < n := by
      have h1 : 0 < X.length := List.length_pos_of_mem HM.out
      have := hn.out; omega
    have hn12 : n ≤ 12 := by
      have h1 := (tput_ok (T := X) (e := (f, b, g)) (by rw [HA.out])).1.2
      have := hn.out; omega
    obtain ⟨g2, c2, rfl, hnc, hBg⟩ := own_some' hO2 hn.out hpos
    go_wp2_with (go_at_call 30; go_must (refine (hly.out _ hO2.tb.1 hU1.1).mono ?_); rintro e wx ⟨rfl, hbx⟩; replace hF := hF.below hbx; replace hU1 := hU1.below hbx; replace hO2 := hO2.below hbx; clear hbx; (try clear o); have o := hF.own; simp only [World.size_alloc, World.size_drew, World.size_setCell, List.mem_cons, List.not_mem_nil, or_false, forall_eq_or_imp, forall_eq, At, and_true, Nat.zero_add, Nat.reduceAdd, List.set_cons_zero, List.set_cons_succ] at o)
    have c1 := iTablePut_any _ X f b g _ hO2.tb
    rw [HA.out] at c1
    refine c1.mono ?_; rintro e wa ⟨u3, rfl, hO3, hb4⟩
    clear c1
    replace hF := hF.below hb4
    replace hO2 := hO2.below hb4
    have hU3 := hO3.tb
    clear hb4 hO3 hU1 o
    have o := hF.own; simp only [World.size_alloc, World.size_drew, World.size_setCell, List.mem_cons, List.not_mem_nil, or_false, forall_eq_or_imp, forall_eq, At, and_true, Nat.zero_add, Nat.reduceAdd, List.set_cons_zero, List.set_cons_succ] at o
    have E0 := Lib.hid o.1.1
    have E1 := Lib.hid o.1.2.2.1
    have E2 := Lib.hid o.1.2.2.2.2.1
    have HF := Lib.hid hF
    have HO := Lib.hid hO2
    have HU := Lib.hid hU3
    clear hF hO2 hU3 o
    go_wp2
    go_loopw [11, 12] (fun s11 s12 wr => ∃ (k : Nat) (c : Bool), k ≤ n ∧ s11 = .bool c ∧ s12 = .int .i64 k ∧ Hid (c = true ↔ (f, b, g) ∈ X.take k) ∧ Fb wa wr []) (fun _ s12 _ => n - (intOf s12).toNat)
    case atStart => exact ⟨0, false, Nat.zero_le _, rfl, rfl, by show _ ↔ _; simp, Fb.start wa⟩
    case round =>
      obtain ⟨k, c, hk, rfl, rfl, hc, hF⟩ := hrel
      by_cases hlt : k < n
      · obtain ⟨y, hy⟩ := get_of hn.out hlt
        have HY := Lib.hid hy
        obtain ⟨p0, p1, p2⟩ := Own.row3 HO.out hy
        clear hy
        obtain ⟨yf, yb, yv⟩ := y
        dsimp only at p0 p1 p2
        have d0 := fun z : Cl wr.heap.size wr => Cl.old hF z p0
        have d1 := fun z : Cl wr.heap.size wr => Cl.old hF z p1
        have d2 := fun z : Cl wr.heap.size wr => Cl.old hF z p2
        have d3 := fun z : Cl wr.heap.size wr => Cl.old hF z E0.out
        have d4 := fun z : Cl wr.heap.size wr => Cl.old hF z E1.out
        have d5 := fun z : Cl wr.heap.size wr => Cl.old hF z E2.out
        clear p0 p1 p2
        have hstep := Lib.hid (mem_step (x := (f, b, g)) HY.out)
        cases c
        · obtain ⟨Q, hQ⟩ : ∃ Q : Bool, ((yf == f && yb == b) && yv == g) = Q := ⟨_, rfl⟩
          have heql : ∀ w, (binOp .eql 29 (.agg #[.int .i64 yf, .int .i64 yb, .int .i64 yv]) (.agg #[.int .i64 f, .int .i64 b, .int .i64 g])).run Try.prog w = .ok (.bool Q) w := fun w => by rw [ent_eql, hQ]
          have hc2 : Hid (Q = true ↔ (f, b, g) ∈ X.take (k + 1)) := by
            show _ ↔ _
            rw [hstep.out, ← hc.out, ← hQ]
            simp
            constructor
            · rintro ⟨⟨rfl, rfl⟩, rfl⟩; exact ⟨rfl, rfl, rfl⟩
            · rintro ⟨rfl, rfl, rfl⟩; exact ⟨⟨rfl, rfl⟩, rfl⟩
          clear hQ
          go_wp2
          first | refine wp_region_new (by kernel_rfl) (by kernel_rfl) ?_ | refine wp_region_lex ?_
          repeat (any_goals (first | go_big_quiet_step ((fail)) | (refine wpQuiet_step (fun K hK => ?_); go_simp; split <;> (rename_i hg; refine hK _ ?_; clear hK K; simp only [hg, decide_true, decide_false]))))
          all_goals (refine wpQuiet_nil ?_; intro x)
          go_wp2
          go_roundw
          case rel => exact ⟨k + 1, Q, by omega, rfl, by go_num, hc2, hF.cl x⟩
          case measure => simp [intOf]; omega
        · have hm2 : Hid ((f, b, g) ∈ X.take (k + 1)) := by
            show (f, b, g) ∈ X.take (k + 1)
            rw [hstep.out, ← hc.out]; exact Or.inl rfl
          clear d0 d1 d2 d3 d4 d5
          go_wp2
          first | refine wp_region_new (by kernel_rfl) (by kernel_rfl) ?_ | refine wp_region_lex ?_
          repeat (any_goals (first | go_big_quiet_step ((fail)) | (refine wpQuiet_step (fun K hK => ?_); go_simp; split <;> (rename_i hg; refine hK _ ?_; clear hK K; simp only [hg, decide_true, decide_false]))))
          all_goals (refine wpQuiet_nil ?_; intro x)
          go_wp2
          go_roundw
          case rel => exact ⟨k + 1, true, by omega, rfl, by go_num, ⟨fun _ => hm2.out, fun _ => rfl⟩, hF.cl x⟩
          case measure => simp [intOf]; omega
      · obtain rfl : c = true := hc.out.2 (by rw [List.take_of_length_le (by rw [hn.out]; omega)]; exact HM.out)
        have hly2 := Lib.hid (fun w h1 h2 => (show Calls Try.prog 30 #[u3, .slice (some ⟨g2, 0, none⟩) n c2] w fun e w' => e = .returned (.bool true) ∧ Below w.heap.size w w' from by have := lyTable_any u3 (.slice (some ⟨g2, 0, none⟩) n c2) X X w h1 h2; rwa [decide_eq_true rfl] at this))
        go_wp2_with (go_at_call 30; go_must (refine (hly2.out _ (HU.out.below hF.kp).1 (HO.out.below hF.kp).tb.1).mono ?_); rintro e wx ⟨rfl, hbx⟩; replace hF := hF.below hbx; clear hbx)
        go_ret
        exact ⟨rfl, (HF.out.below hF.kp).kp⟩
end Go.Proofs.Ytbhenfegklgkoaa
