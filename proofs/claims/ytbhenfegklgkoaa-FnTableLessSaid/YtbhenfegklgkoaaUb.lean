/- Law on leaving out: the walk of FnTableLess. -/
import Derived.Test.YtbhenfegklgkoaaUa
set_option linter.unusedSimpArgs false
set_option linter.unusedVariables false
namespace Go.Proofs.Ytbhenfegklgkoaa
open Go.RowKit

set_option maxHeartbeats 8000000 in
set_option maxRecDepth 100000 in
theorem FnTableLess_walk (a0 : Option Addr) (n0 c0 : Nat) (w : World) (h0 : Given w (.slice a0 n0 c0)) :
    Calls Try.prog 8 #[.slice a0 n0 c0] w fun e w' => e = .returned (.bool true) ∧ Below w.heap.size w w' := by
  by_cases hn0 : 1048576 < n0
  · have e0 : decide (1048576 < (n0 : Int)) = true := by simp; omega
    go_enter Try.func8, Try.ntmps8
    go_wp2
    go_ret
    exact ⟨rfl, Below.refl _ _⟩
  have e0 : decide (1048576 < (n0 : Int)) = false := by simp; omega
  have hF := Fb.start w
  go_enter Try.func8, Try.ntmps8
  go_wp2_with fail
  refine (drawTableLess_any _ _ h0).mono ?_; rintro e w1 ⟨v, T, rfl, hV, hne, hb1⟩
  replace hF := hF.below hb1
  have HN := Lib.hid hne
  clear hb1 h0
  rcases hV.cases with ⟨rfl, rfl⟩ | ⟨b0, off, n, cap, rfl, hn, hnc, hcc⟩
  · exact (hne rfl).elim
  clear hne
  go_wp2_with fail
  refine (iTableLess_any _ T _ hV).mono ?_; rintro e w2 ⟨vx1, rfl, hO1, hb2⟩
  replace hF := hF.below hb2
  replace hV := hV.below hb2
  clear hb2
  by_cases hT : TOk T
  · have d1 : decide (TOk T) = true := by simp [hT]
    have HT := Lib.hid hT
    have hl : lessT T = lst T T.length := by unfold lessT; rw [if_pos hT]
    rw [hl] at hO1
    obtain ⟨X, hX⟩ : ∃ X, Hid (lst T T.length = X) := ⟨_, rfl⟩
    rw [hX.out] at hO1
    have hXok : TOk X := by rw [← hX.out]; exact lst_tok hT _
    have HXk := Lib.hid hXok
    have hXd : decide (TOk X) = true := decide_eq_true hXok
    have hneed : Hid (∀ e ∈ X, ¬ SmT (drp X (e.1, e.2.1)) T) := by
      show ∀ e ∈ X, _
      intro e he; rw [← hX.out] at he ⊢; exact lst_need hT he
    have hsub : Hid (∀ e ∈ X, e ∈ T) := by
      show ∀ e ∈ X, _
      intro e he; rw [← hX.out] at he; exact lst_sub he
    have hsame : decide (TSame X T) = true := decide_eq_true ⟨hXok, hT, by rw [← hX.out]; exact lst_same T _⟩
    have hll : Hid (lessT X = X) := by show _ = _; rw [← hX.out]; exact less_less hT
    have hlx : Hid (lessT T = X) := by show _ = _; rw [hl, hX.out]
    have CL : Hid (∀ w (h : Tb w (.slice (some ⟨b0, off, none⟩) n cap) T), Calls Try.prog 33 #[.slice (some ⟨b0, off, none⟩) n cap] w fun e w' => ∃ u, e = .returned u ∧ Own 29 w' w.heap.size u 3 encE X ∧ Below w.heap.size w w') := by
      intro w h
      have := sTableLess_any _ T w h HN.out
      rwa [hlx.out] at this
    have hX12 := hXok.2
    have hT12 := hT.2
    have hn12 : n ≤ 12 := by have := hn.out; omega
    clear hl hT hXok
    obtain ⟨al, cl, hsl⟩ := hO1.sl
    obtain ⟨m, hm⟩ : ∃ m, Hid (X.length = m) := ⟨_, rfl⟩
    rw [hm.out] at hsl
    subst hsl
    have HO := Lib.hid hO1
    have hU1 := hO1.tb
    have hm12 : m ≤ 12 := by have := hm.out; omega
    clear hO1
    go_wp2_with (first | (go_at_call 33; go_must (refine (CL.out _ hV).mono ?_); rintro e wx ⟨vx2, rfl, hOx, hbx⟩; replace hF := hF.below hbx; (try replace hV := hV.below hbx); (try replace hU1 := hU1.below hbx); have hU2 := hOx.tb; clear hbx hOx) | (go_at_call 30; go_must (refine (lyTable_same _ _ X _ hU1.1 hU2.1).mono ?_); rintro e wx ⟨rfl, hbx⟩; replace hF := hF.below hbx; (try replace hV := hV.below hbx); (try replace hU1 := hU1.below hbx); (try replace hU2 := hU2.below hbx); clear hbx) | (go_at_call 17; go_must (refine (sTableOk_any _ T _ hV.1).mono ?_); rintro e wx ⟨rfl, hbx⟩; replace hF := hF.below hbx; (try replace hV := hV.below hbx); (try replace hU1 := hU1.below hbx); (try replace hU2 := hU2.below hbx); clear hbx))
    obtain ⟨wa, rfl⟩ : ∃ wa : World, wa = wx := ⟨_, rfl⟩
    have HV := Lib.hid hV
    have HU := Lib.hid hU1
    have HF := Lib.hid hF
    clear hV hU1 hU2 hF
    go_loopw [5] (fun s5 wr => ∃ i : Nat, i ≤ m ∧ s5 = .int .i64 i ∧ Fb wa wr []) (fun s5 _ => m - (intOf s5).toNat)
    case atStart => exact ⟨0, Nat.zero_le _, rfl, Fb.start wa⟩
    case round =>
      obtain ⟨i, hi, rfl, hF⟩ := hrel
      by_cases him : i < m
      · obtain ⟨g, c', hsl, _, _⟩ := own_some' HO.out hm.out (by omega)
        injection hsl with hs1 hs2 hs3
        subst hs1
        subst hs3
        clear hs2
        obtain ⟨z, hz⟩ := get_of hm.out him
        have HZ := Lib.hid hz
        have p0 := HU.out.1.get hz (j := 0) rfl
        have p1 := HU.out.1.get hz (j := 1) rfl
        have p2 := HU.out.1.get hz (j := 2) rfl
        have hzn := Lib.hid (hneed.out z (List.mem_of_getElem? hz))
        have hzT := Lib.hid (hsub.out z (List.mem_of_getElem? hz))
        have hdl := drp_less (tok_srt HXk.out) hz
        have hzE := (tok_ep HXk.out (List.mem_of_getElem? hz)).1
        clear hz
        obtain ⟨zf, zb, zv⟩ := z
        simp only [Nat.zero_add, Nat.add_zero] at p0 p1 p2
        dsimp only at hzn hdl hzE
        have P0 := Lib.hid p0
        have P1 := Lib.hid p1
        have P2 := Lib.hid p2
        have CD : Hid (∀ w (h : Tb w (.slice (some ⟨g, 0, none⟩) m cl) X), Calls Try.prog 34 #[.slice (some ⟨g, 0, none⟩) m cl, .agg #[.int .i64 zf, .int .i64 zb]] w fun e w' => ∃ u, e = .returned (.tuple #[u, .bool true]) ∧ Own 29 w' w.heap.size u 3 encE (drp X (zf, zb)) ∧ Below w.heap.size w w') := by
          intro w h
          have := iTableDrop_any _ X zf zb w h
          rw [tdrp_yes HXk.out hzE] at this
          dsimp only at this
          rwa [decide_eq_true (show (drp X (zf, zb)).length < X.length by omega)] at this
        have hDk : Hid (TOk (drp X (zf, zb))) := drp_tok HXk.out _
        have hns : decide (TSame (drp X (zf, zb)) T) = false := decide_eq_false (fun q => hzn.out q.2.2)
        clear hdl hzE p0 p1 p2
        have q0 := hF.old P0.out
        have q1 := hF.old P1.out
        go_wp2_with fail
        refine (CD.out _ (HU.out.below hF.kp)).mono ?_; rintro e w3 ⟨vx3, rfl, hO3, hb3⟩
        replace hF := hF.below hb3
        have hU3 := hO3.tb
        clear hb3 hO3 q0 q1
        have hV := HV.out.below hF.kp
        go_wp2_with fail
        refine (iTableSame_any _ _ (drp X (zf, zb)) T _ hU3.1 hV.1).mono ?_; rintro e w4 ⟨rfl, hb4⟩
        replace hF := hF.below hb4
        clear hb4 hU3 hV
        go_wp2
        go_loopw [8, 9] (fun s8 s9 wq => ∃ (k : Nat) (c : Bool), k ≤ n ∧ s8 = .bool c ∧ s9 = .int .i64 k ∧ Hid (c = true ↔ (zf, zb, zv) ∈ T.take k) ∧ Fb wa wq []) (fun _ s9 _ => n - (intOf s9).toNat)
        case atStart => exact ⟨0, false, Nat.zero_le _, rfl, rfl, by show _ ↔ _; simp, hF⟩
        case round =>
          clear hF
          obtain ⟨k, c, hk, rfl, rfl, hc, hF⟩ := hrel
          by_cases hkn : k < n
          · obtain ⟨y, hy⟩ := get_of hn.out hkn
            have HY := Lib.hid hy
            have p0 := HV.out.1.get hy (j := 0) rfl
            have p1 := HV.out.1.get hy (j := 1) rfl
            have p2 := HV.out.1.get hy (j := 2) rfl
            clear hy
            obtain ⟨yf, yb, yv⟩ := y
            dsimp only [Nat.add_zero] at p0 p1 p2
            have d0 := fun z : Cl wr.heap.size wr => Cl.old hF z p0
            have d1 := fun z : Cl wr.heap.size wr => Cl.old hF z p1
            have d2 := fun z : Cl wr.heap.size wr => Cl.old hF z p2
            have d3 := fun z : Cl wr.heap.size wr => Cl.old hF z P0.out
            have d4 := fun z : Cl wr.heap.size wr => Cl.old hF z P1.out
            have d5 := fun z : Cl wr.heap.size wr => Cl.old hF z P2.out
            clear p0 p1 p2
            have hstep := Lib.hid (mem_step (x := (zf, zb, zv)) HY.out)
            cases c
            · obtain ⟨Q, hQ⟩ : ∃ Q : Bool, ((yf == zf && yb == zb) && yv == zv) = Q := ⟨_, rfl⟩
              have heql : ∀ w, (binOp .eql 29 (.agg #[.int .i64 yf, .int .i64 yb, .int .i64 yv]) (.agg #[.int .i64 zf, .int .i64 zb, .int .i64 zv])).run Try.prog w = .ok (.bool Q) w := fun w => by rw [ent_eql, hQ]
              have hc2 : Hid (Q = true ↔ (zf, zb, zv) ∈ T.take (k + 1)) := by
                show _ ↔ _
                rw [hstep.out, ← hc.out, ← hQ]
                simp
                constructor
                · rintro ⟨⟨rfl, rfl⟩, rfl⟩; exact ⟨rfl, rfl, rfl⟩
                · rintro ⟨rfl, rfl, rfl⟩; exact ⟨⟨rfl, rfl⟩, rfl⟩
              clear hQ
              go_wp2
              first | refine wp_region_new (by kernel_rfl) (by kernel_rfl) ?_ | refine wp_region_lex ?_
              repeat (any_goals (first | go_big_quiet_step ((fail)) | (refine wpQuiet_step (fun K hK => ?_); go_simp; split <;> (rename_i hg; refine hK _ ?_; clear hK K; simp only [hg, decide_true, decide_false]))))
              all_goals (refine wpQuiet_nil ?_; intro x)
              go_wp2
              go_roundw
              case rel => exact ⟨k + 1, Q, by omega, rfl, by go_num, hc2, hF.cl x⟩
              case measure => simp [intOf]; omega
            · have hm2 : Hid ((zf, zb, zv) ∈ T.take (k + 1)) := by
                show (zf, zb, zv) ∈ T.take (k + 1)
                rw [hstep.out, ← hc.out]; exact Or.inl rfl
              clear d0 d1 d2 d3 d4 d5
              go_wp2
              first | refine wp_region_new (by kernel_rfl) (by kernel_rfl) ?_ | refine wp_region_lex ?_
              repeat (any_goals (first | go_big_quiet_step ((fail)) | (refine wpQuiet_step (fun K hK => ?_); go_simp; split <;> (rename_i hg; refine hK _ ?_; clear hK K; simp only [hg, decide_true, decide_false]))))
              all_goals (refine wpQuiet_nil ?_; intro x)
              go_wp2
              go_roundw
              case rel => exact ⟨k + 1, true, by omega, rfl, by go_num, ⟨fun _ => hm2.out, fun _ => rfl⟩, hF.cl x⟩
              case measure => simp [intOf]; omega
          · have hct : c = true := hc.out.2 (by rw [List.take_of_length_le (by rw [hn.out]; omega)]; exact hzT.out)
            subst hct
            go_wp2
            go_roundw
            case rel => exact ⟨i + 1, by omega, by go_num, hF⟩
            case measure => simp [intOf]; omega
      · have hV := HV.out.below hF.kp
        have hU1 := HU.out.below hF.kp
        have CL2 : Hid (∀ w (h : Tb w (.slice al m cl) X), Calls Try.prog 32 #[.slice al m cl] w fun e w' => ∃ u, e = .returned u ∧ Own 29 w' w.heap.size u 3 encE X ∧ Below w.heap.size w w') := by
          intro w h
          have := iTableLess_any _ X w h
          rwa [hll.out] at this
        go_wp2_with (first | (go_at_call 25; go_must (refine (iTableSame_any _ _ X T _ hU1.1 hV.1).mono ?_); rintro e wx ⟨rfl, hbx⟩; replace hF := hF.below hbx; (try replace hV := hV.below hbx); (try replace hU1 := hU1.below hbx); (try replace hU2 := hU2.below hbx); clear hbx) | (go_at_call 32; go_must (refine (CL2.out _ hU1).mono ?_); rintro e wx ⟨vx2, rfl, hOx, hbx⟩; replace hF := hF.below hbx; (try replace hV := hV.below hbx); (try replace hU1 := hU1.below hbx); have hU2 := hOx.tb; clear hbx hOx) | (go_at_call 30; go_must (refine (lyTable_same _ _ X _ hU2.1 hU1.1).mono ?_); rintro e wx ⟨rfl, hbx⟩; replace hF := hF.below hbx; (try replace hV := hV.below hbx); (try replace hU1 := hU1.below hbx); (try replace hU2 := hU2.below hbx); clear hbx) | (go_at_call 16; go_must (refine (iTableOk_any _ X _ hU1.1).mono ?_); rintro e wx ⟨rfl, hbx⟩; replace hF := hF.below hbx; (try replace hV := hV.below hbx); (try replace hU1 := hU1.below hbx); (try replace hU2 := hU2.below hbx); clear hbx))
        go_ret
        exact ⟨rfl, (HF.out.below hF.kp).kp⟩
  · have d1 : decide (TOk T) = false := by simp [hT]
    have hl : lessT T = [] := by unfold lessT; rw [if_neg hT]
    have CL : Hid (∀ w (h : Tb w (.slice (some ⟨b0, off, none⟩) n cap) T), Calls Try.prog 33 #[.slice (some ⟨b0, off, none⟩) n cap] w fun e w' => ∃ u, e = .returned u ∧ Own 29 w' w.heap.size u 3 encE [] ∧ Below w.heap.size w w') := by
      intro w h
      have := sTableLess_any _ T w h HN.out
      rwa [hl] at this
    rw [hl] at hO1
    have hU1 := hO1.tb
    clear hO1 hl hT
    go_wp2_with (first | (go_at_call 33; go_must (refine (CL.out _ hV).mono ?_); rintro e wx ⟨vx2, rfl, hOx, hbx⟩; replace hF := hF.below hbx; (try replace hV := hV.below hbx); (try replace hU1 := hU1.below hbx); have hU2 := hOx.tb; clear hbx hOx) | (go_at_call 30; go_must (refine (lyTable_same _ _ [] _ hU1.1 hU2.1).mono ?_); rintro e wx ⟨rfl, hbx⟩; replace hF := hF.below hbx; (try replace hV := hV.below hbx); (try replace hU1 := hU1.below hbx); (try replace hU2 := hU2.below hbx); clear hbx) | (go_at_call 17; go_must (refine (sTableOk_any _ T _ hV.1).mono ?_); rintro e wx ⟨rfl, hbx⟩; replace hF := hF.below hbx; (try replace hV := hV.below hbx); (try replace hU1 := hU1.below hbx); (try replace hU2 := hU2.below hbx); clear hbx))
    go_ret
    exact ⟨rfl, hF.kp⟩
end Go.Proofs.Ytbhenfegklgkoaa
