/- Ranges: which stands ahead. Marks; is a route ok. Marks put into an ascending row, plain. -/
import Derived.Test.YtonojegnbcgnaaaDoorZ7
import Derived.Test.YtonojegnbcgnaaaDoorZ6
set_option linter.unusedSimpArgs false
set_option linter.unusedVariables false
namespace Go.Proofs.YtonojegnbcgnaaaDoor
open Go.RowKit

def rcmp (f b g c : Int) : Int := if icmp f g ≠ 0 then icmp f g else icmp b c
def RC (f b g c : Int) : Int := if ROk f b ∧ ROk g c then rcmp f b g c else 0
theorem iRangeCmp_any (f b g c : Int) (w : World) :
    Calls Tryd.prog 54 #[.agg #[.int .i64 f, .int .i64 b], .agg #[.int .i64 g, .int .i64 c]] w fun e w' => e = .returned (.int .i64 (RC f b g c)) ∧ Below w.heap.size w w' := by
  unfold RC
  by_cases h : ROk f b
  · have hd : decide (ROk f b) = true := by simp [h]
    by_cases h' : ROk g c
    · have hd' : decide (ROk g c) = true := by simp [h']
      rw [if_pos ⟨h, h'⟩]
      go_enter Tryd.func54, Tryd.ntmps54
      go_wp2_with fail
      refine (iRangeOk_any f b _).mono ?_; rintro e w1 ⟨rfl, hb⟩
      have c1 := (bcell hb).1
      go_wp2_with fail
      refine (iRangeOk_any g c _).mono ?_; rintro e w2 ⟨rfl, hb2⟩
      replace hb := hb.trans (hb2.mono hb.size)
      clear c1
      have c2 : w2.cell? ⟨w.heap.size, 0, none⟩ = some (.int .i64 f) ∧ w2.cell? ⟨w.heap.size, 1, none⟩ = some (.int .i64 b) ∧ w2.cell? ⟨w.heap.size + 1, 0, none⟩ = some (.int .i64 g) ∧ w2.cell? ⟨w.heap.size + 1, 1, none⟩ = some (.int .i64 c) :=
        ⟨(hb.cell (by simp; omega)).trans (by simp), (hb.cell (by simp; omega)).trans (by simp), (hb.cell (by simp)).trans (by simp), (hb.cell (by simp)).trans (by simp)⟩
      have hs := hb.size
      go_wp2_with fail
      go_region_held3 (fun w' => w'.cell? ⟨w.heap.size, 0, none⟩ = some (.int .i64 f) ∧ w'.cell? ⟨w.heap.size, 1, none⟩ = some (.int .i64 b) ∧ w'.cell? ⟨w.heap.size + 1, 0, none⟩ = some (.int .i64 g) ∧ w'.cell? ⟨w.heap.size + 1, 1, none⟩ = some (.int .i64 c)) (first | (simp [c2]; done) | go_keep)
        (first
          | (go_at_call 52; refine (compare_any _ _ _).mono ?_; rintro e w' ⟨rfl, rfl⟩)
          | (go_at_call 51; refine (or_any _ 0 2 [icmp f g, icmp b c] _ ?_ (by simp)).mono ?_; (intro i hi; match i, hi with | 0, _ => simp | 1, _ => simp); rintro e w' ⟨rfl, rfl⟩))
      all_goals go_wp2
      all_goals go_ret
      all_goals refine ⟨ret_int ?_, (((Below.refl _ _).alloc (Nat.le_refl _) _).alloc (by simp) _).trans ((((hb.drew).alloc hs _)).mono (by simp; omega))⟩
      all_goals (simp only [orI_cons, orI_nil, rcmp]; split <;> (try split) <;> simp_all)
    · have hd' : decide (ROk g c) = false := by simp [h']
      rw [if_neg (fun x => h' x.2)]
      go_enter Tryd.func54, Tryd.ntmps54
      go_wp2_with fail
      refine (iRangeOk_any f b _).mono ?_; rintro e w1 ⟨rfl, hb⟩
      have c1 := (bcell hb).1
      go_wp2_with fail
      refine (iRangeOk_any g c _).mono ?_; rintro e w2 ⟨rfl, hb2⟩
      replace hb := hb.trans (hb2.mono hb.size)
      go_wp2
      go_ret
      exact ⟨rfl, (((Below.refl _ _).alloc (Nat.le_refl _) _).alloc (by simp) _).trans (hb.mono (by simp; omega))⟩
  · have hd : decide (ROk f b) = false := by simp [h]
    rw [if_neg (fun x => h x.1)]
    go_enter Tryd.func54, Tryd.ntmps54
    go_wp2_with fail
    refine (iRangeOk_any f b _).mono ?_; rintro e w1 ⟨rfl, hb⟩
    go_wp2
    go_ret
    exact ⟨rfl, (((Below.refl _ _).alloc (Nat.le_refl _) _).alloc (by simp) _).trans (hb.mono (by simp; omega))⟩
theorem l1Cmp_any (f b g c : Int) (w : World) :
    Calls Tryd.prog 61 #[.agg #[.int .i64 f, .int .i64 b], .agg #[.int .i64 g, .int .i64 c]] w fun e w' => e = .returned (.int .i64 (rcmp f b g c)) ∧ Below w.heap.size w w' := by
  have e : rcmp f b g c = if f < g then -1 else if g < f then 1 else if b < c then -1 else if c < b then 1 else 0 := by
    unfold rcmp icmp; by_cases h1 : f < g <;> by_cases h2 : g < f <;> simp [h1, h2]
  have E := Lib.hid e; clear e
  go_enter Tryd.func61, Tryd.ntmps61
  go_wp2
  all_goals go_ret
  all_goals refine ⟨ret_int ?_, (((Below.refl _ _).alloc (Nat.le_refl _) _).alloc (by simp) _)⟩
  all_goals rw [E.out]
  all_goals (repeat' split) <;> first | rfl | omega
end Go.Proofs.YtonojegnbcgnaaaDoor
set_option linter.unusedSimpArgs false
set_option linter.unusedVariables false
namespace Go.Proofs.YtonojegnbcgnaaaDoor
open Go.RowKit

theorem getI_of {M : List Int} {k : Nat} {x : Int} (h : M[k]? = some x) : M.getD k 0 = x := by simp [List.getD, h]
def StepM (M : List Int) (i : Nat) : Prop := Bts (M.getD i 0) 1 9 ∧ (0 < i → M.getD (i - 1) 0 < M.getD i 0)
instance (M : List Int) (i : Nat) : Decidable (StepM M i) := by unfold StepM; infer_instance
/-- Marks stand ascending. -/
def MOk (M : List Int) : Prop := ∀ i, i < M.length → StepM M i
instance (M : List Int) : Decidable (MOk M) := by unfold MOk; infer_instance
theorem mok_no {M : List Int} {n k : Nat} (hn : M.length = n) (hk : k < n) (h : ¬ StepM M k) : decide (MOk M) = false := decide_eq_false fun g => h (g k (by omega))
theorem mok_yes {M : List Int} {n : Nat} (hn : M.length = n) (h : ∀ j, j < n → StepM M j) : decide (MOk M) = true := decide_eq_true fun i hi => h i (by omega)
theorem step_0 {M : List Int} {x : Int} (h : M[0]? = some x) : StepM M 0 ↔ Bts x 1 9 := by
  unfold StepM; rw [getI_of h]; simp
theorem step_s {M : List Int} {k k' : Nat} {x y : Int} (hk : k' + 1 ≤ k) (hk' : k ≤ k' + 1) (hy : M[k']? = some y) (hx : M[k]? = some x) : StepM M k ↔ Bts x 1 9 ∧ y < x := by
  obtain rfl : k = k' + 1 := by omega
  unfold StepM
  rw [getI_of hx, show k' + 1 - 1 = k' by omega, getI_of hy]
  simp
theorem stepM_go {M : List Int} {k : Nat} {n : Nat} (h : ∀ j, j < k → StepM M j) (hs : StepM M k) : ∀ j, j < k + 1 → StepM M j := fun j hj => by
  by_cases e : j = k
  · subst e; exact hs
  · exact h j (by omega)
theorem iMarks_any (v : Value) (M : List Int) (w : World) (hv : Ints w v M) :
    Calls Tryd.prog 58 #[v] w fun e w' => e = .returned (.bool (decide (MOk M))) ∧ Below w.heap.size w w' := by
  have hF := Fb.start w
  obtain ⟨n, cap, hn, hnc, hcap, ⟨hn0, ao, rfl⟩ | ⟨hn0, b0, off, rfl, hc⟩⟩ := hv.cases
  all_goals
    clear hv
    go_enter Tryd.func58, Tryd.ntmps58
    go_wp2
    go_loopw [3, 4, 7] (fun s3 s4 s7 wr => ∃ k : Nat, k ≤ n ∧ s7 = .int .i64 k ∧ Hid (∀ j, j < k → StepM M j) ∧ Fb w wr []) (fun _ _ s7 _ => n - (intOf s7).toNat)
    case atStart => exact ⟨0, Nat.zero_le _, rfl, (fun j hj => by omega), hF⟩
    case round =>
      clear hF
      obtain ⟨k, hk, rfl, hall, hF⟩ := hrel
      by_cases hlt : k < n
      · try (exfalso; omega)
        all_goals
          obtain ⟨x0, hx⟩ := get_of hn.out hlt
          have HX := Lib.hid hx
          have G0 := Lib.hid (hc.out k x0 hx)
          clear hx
          by_cases h0 : k = 0
          · subst h0
            have G0 := Lib.hid (show w.cell? ⟨b0, off, none⟩ = some (.int .i64 x0) from by have := G0.out; simpa using this)
            have hst := Lib.hid (step_0 HX.out)
            by_cases d1 : Bts x0 1 9
            · have e1 : decide (Bts x0 1 9) = true := by simp [d1]
              have hall2 : Hid (∀ j, j < 0 + 1 → StepM M j) := stepM_go (n := n) hall.out (hst.out.2 d1)
              clear d1
              have c0 := hF.old G0.out
              go_wp2_with (go_at_call 42; refine (isMark_any _ _).mono ?_; rintro e wx ⟨rfl, hbx⟩; replace hF := hF.below hbx; clear hbx; (try (have c1 := hF.old G1.out)))
              go_roundw
              case rel => exact ⟨0 + 1, by omega, by go_num, hall2, hF⟩
              case measure => simp [intOf]; omega
            · have e1 : decide (Bts x0 1 9) = false := by simp [d1]
              have hp := Lib.hid (mok_no hn.out hlt (fun g => d1 (hst.out.1 g)))
              clear d1
              have c0 := hF.old G0.out
              go_wp2_with (go_at_call 42; refine (isMark_any _ _).mono ?_; rintro e wx ⟨rfl, hbx⟩; replace hF := hF.below hbx; clear hbx; (try (have c1 := hF.old G1.out)))
              go_ret
              exact ⟨by rw [hp.out]; rfl, hF.kp⟩
          · obtain ⟨k', hk1, hk2⟩ : ∃ k', k' + 1 ≤ k ∧ k ≤ k' + 1 := ⟨k - 1, by omega, by omega⟩
            have hsub : (k : Int) - 1 = (k' : Int) := by omega
            have hkpos : (0 : Int) < k := by omega
            have hkp : 0 < k := by omega
            have hk'n : k' < n := by omega
            obtain ⟨y0, hy⟩ := get_of hn.out hk'n
            have G1 := Lib.hid (hc.out k' y0 hy)
            have hst := Lib.hid (step_s hk1 hk2 hy HX.out)
            clear hy h0
            by_cases d1 : Bts x0 1 9
            · have e1 : decide (Bts x0 1 9) = true := by simp [d1]
              by_cases d2 : x0 ≤ y0
              · have hp := Lib.hid (mok_no hn.out hlt (fun g => by have := (hst.out.1 g).2; omega))
                clear d1
                have c0 := hF.old G0.out
                go_wp2_with (go_at_call 42; refine (isMark_any _ _).mono ?_; rintro e wx ⟨rfl, hbx⟩; replace hF := hF.below hbx; clear hbx; (try (have c1 := hF.old G1.out)))
                go_ret
                exact ⟨by rw [hp.out]; rfl, hF.kp⟩
              · have hall2 : Hid (∀ j, j < k + 1 → StepM M j) := stepM_go (n := n) hall.out (hst.out.2 ⟨d1, by omega⟩)
                clear d1
                have c0 := hF.old G0.out
                go_wp2_with (go_at_call 42; refine (isMark_any _ _).mono ?_; rintro e wx ⟨rfl, hbx⟩; replace hF := hF.below hbx; clear hbx; (try (have c1 := hF.old G1.out)))
                go_roundw
                case rel => exact ⟨k + 1, by omega, by go_num, hall2, hF⟩
                case measure => simp [intOf]; omega
            · have e1 : decide (Bts x0 1 9) = false := by simp [d1]
              have hp := Lib.hid (mok_no hn.out hlt (fun g => d1 (hst.out.1 g).1))
              clear d1
              have c0 := hF.old G0.out
              go_wp2_with (go_at_call 42; refine (isMark_any _ _).mono ?_; rintro e wx ⟨rfl, hbx⟩; replace hF := hF.below hbx; clear hbx; (try (have c1 := hF.old G1.out)))
              go_ret
              exact ⟨by rw [hp.out]; rfl, hF.kp⟩
      · have hp := Lib.hid (mok_yes hn.out (fun j hj => hall.out j (by omega)))
        go_wp2
        go_ret
        exact ⟨by rw [hp.out]; rfl, hF.kp⟩
theorem sMarks_any (v : Value) (M : List Int) (w : World) (hv : Ints w v M) :
    Calls Tryd.prog 79 #[v] w fun e w' => e = .returned (.bool (decide (MOk M))) ∧ Below w.heap.size w w' := by
  have hF := Fb.start w
  obtain ⟨n, cap, hn, hnc, hcap, ⟨hn0, ao, rfl⟩ | ⟨hn0, b0, off, rfl, hc⟩⟩ := hv.cases
  all_goals
    clear hv
    go_enter Tryd.func79, Tryd.ntmps79
    go_wp2
    go_loopw [3] (fun s3 wr => ∃ k : Nat, k ≤ n ∧ s3 = .int .i64 k ∧ Hid (∀ j, j < k → StepM M j) ∧ Fb w wr []) (fun s3 _ => n - (intOf s3).toNat)
    case atStart => exact ⟨0, Nat.zero_le _, rfl, (fun j hj => by omega), hF⟩
    case round =>
      clear hF
      obtain ⟨k, hk, rfl, hall, hF⟩ := hrel
      by_cases hlt : k < n
      · try (exfalso; omega)
        all_goals
          obtain ⟨x0, hx⟩ := get_of hn.out hlt
          have HX := Lib.hid hx
          have G0 := Lib.hid (hc.out k x0 hx)
          clear hx
          by_cases h0 : k = 0
          · subst h0
            have G0 := Lib.hid (show w.cell? ⟨b0, off, none⟩ = some (.int .i64 x0) from by have := G0.out; simpa using this)
            have hst := Lib.hid (step_0 HX.out)
            by_cases d1 : Bts x0 1 9
            · have e1 : decide (Bts x0 1 9) = true := by simp [d1]
              have hall2 : Hid (∀ j, j < 0 + 1 → StepM M j) := stepM_go (n := n) hall.out (hst.out.2 d1)
              clear d1
              have c0 := fun z : Cl wr.heap.size wr => Cl.old hF z G0.out
              (try (have c1 := fun z : Cl wr.heap.size wr => Cl.old hF z G1.out))
              go_wp2
              first | refine wp_region_new (by kernel_rfl) (by kernel_rfl) ?_ | refine wp_region_lex ?_
              repeat (any_goals (first | go_big_quiet_step (((go_at_call 39; exact Calls.cl (l6In_any _ _ _ _)))) | (refine wpQuiet_step (fun K hK => ?_); go_simp; split <;> (rename_i hg; refine hK _ ?_; clear hK K; simp only [hg, decide_true, decide_false]))))
              all_goals (refine wpQuiet_nil ?_; intro x)
              go_wp2
              go_roundw
              case rel => exact ⟨0 + 1, by omega, by go_num, hall2, hF.cl x⟩
              case measure => simp [intOf]; omega
            · have e1 : decide (Bts x0 1 9) = false := by simp [d1]
              have hp := Lib.hid (mok_no hn.out hlt (fun g => d1 (hst.out.1 g)))
              clear d1
              have c0 := fun z : Cl wr.heap.size wr => Cl.old hF z G0.out
              (try (have c1 := fun z : Cl wr.heap.size wr => Cl.old hF z G1.out))
              go_wp2
              first | refine wp_region_new (by kernel_rfl) (by kernel_rfl) ?_ | refine wp_region_lex ?_
              repeat (any_goals (first | go_big_quiet_step (((go_at_call 39; exact Calls.cl (l6In_any _ _ _ _)))) | (refine wpQuiet_step (fun K hK => ?_); go_simp; split <;> (rename_i hg; refine hK _ ?_; clear hK K; simp only [hg, decide_true, decide_false]))))
              all_goals (refine wpQuiet_nil ?_; intro x)
              go_wp2
              go_ret
              exact ⟨by rw [hp.out]; rfl, (hF.cl x).kp⟩
          · obtain ⟨k', hk1, hk2⟩ : ∃ k', k' + 1 ≤ k ∧ k ≤ k' + 1 := ⟨k - 1, by omega, by omega⟩
            have hsub : (k : Int) - 1 = (k' : Int) := by omega
            have hkpos : (0 : Int) < k := by omega
            have hkp : 0 < k := by omega
            have hk'n : k' < n := by omega
            obtain ⟨y0, hy⟩ := get_of hn.out hk'n
            have G1 := Lib.hid (hc.out k' y0 hy)
            have hst := Lib.hid (step_s hk1 hk2 hy HX.out)
            clear hy h0
            by_cases d1 : Bts x0 1 9
            · have e1 : decide (Bts x0 1 9) = true := by simp [d1]
              by_cases d2 : x0 ≤ y0
              · have hp := Lib.hid (mok_no hn.out hlt (fun g => by have := (hst.out.1 g).2; omega))
                clear d1
                have c0 := fun z : Cl wr.heap.size wr => Cl.old hF z G0.out
                (try (have c1 := fun z : Cl wr.heap.size wr => Cl.old hF z G1.out))
                go_wp2
                first | refine wp_region_new (by kernel_rfl) (by kernel_rfl) ?_ | refine wp_region_lex ?_
                repeat (any_goals (first | go_big_quiet_step (((go_at_call 39; exact Calls.cl (l6In_any _ _ _ _)))) | (refine wpQuiet_step (fun K hK => ?_); go_simp; split <;> (rename_i hg; refine hK _ ?_; clear hK K; simp only [hg, decide_true, decide_false]))))
                all_goals (refine wpQuiet_nil ?_; intro x)
                go_wp2
                go_ret
                exact ⟨by rw [hp.out]; rfl, (hF.cl x).kp⟩
              · have hall2 : Hid (∀ j, j < k + 1 → StepM M j) := stepM_go (n := n) hall.out (hst.out.2 ⟨d1, by omega⟩)
                clear d1
                have c0 := fun z : Cl wr.heap.size wr => Cl.old hF z G0.out
                (try (have c1 := fun z : Cl wr.heap.size wr => Cl.old hF z G1.out))
                go_wp2
                first | refine wp_region_new (by kernel_rfl) (by kernel_rfl) ?_ | refine wp_region_lex ?_
                repeat (any_goals (first | go_big_quiet_step (((go_at_call 39; exact Calls.cl (l6In_any _ _ _ _)))) | (refine wpQuiet_step (fun K hK => ?_); go_simp; split <;> (rename_i hg; refine hK _ ?_; clear hK K; simp only [hg, decide_true, decide_false]))))
                all_goals (refine wpQuiet_nil ?_; intro x)
                go_wp2
                go_roundw
                case rel => exact ⟨k + 1, by omega, by go_num, hall2, hF.cl x⟩
                case measure => simp [intOf]; omega
            · have e1 : decide (Bts x0 1 9) = false := by simp [d1]
              have hp := Lib.hid (mok_no hn.out hlt (fun g => d1 (hst.out.1 g).1))
              clear d1
              have c0 := fun z : Cl wr.heap.size wr => Cl.old hF z G0.out
              (try (have c1 := fun z : Cl wr.heap.size wr => Cl.old hF z G1.out))
              go_wp2
              first | refine wp_region_new (by kernel_rfl) (by kernel_rfl) ?_ | refine wp_region_lex ?_
              repeat (any_goals (first | go_big_quiet_step (((go_at_call 39; exact Calls.cl (l6In_any _ _ _ _)))) | (refine wpQuiet_step (fun K hK => ?_); go_simp; split <;> (rename_i hg; refine hK _ ?_; clear hK K; simp only [hg, decide_true, decide_false]))))
              all_goals (refine wpQuiet_nil ?_; intro x)
              go_wp2
              go_ret
              exact ⟨by rw [hp.out]; rfl, (hF.cl x).kp⟩
      · have hp := Lib.hid (mok_yes hn.out (fun j hj => hall.out j (by omega)))
        go_wp2
        go_ret
        exact ⟨by rw [hp.out]; rfl, hF.kp⟩
end Go.Proofs.YtonojegnbcgnaaaDoor
set_option linter.unusedSimpArgs false
set_option linter.unusedVariables false
namespace Go.Proofs.YtonojegnbcgnaaaDoor
open Go.RowKit

theorem mok_pair {M : List Int} (h : MOk M) : M.Pairwise (· < ·) := by
  rw [List.pairwise_iff_getElem]
  intro i j hi hj hij
  induction j with
  | zero => omega
  | succ j ih =>
    have h1 := (h (j + 1) hj).2 (by omega)
    rw [show j + 1 - 1 = j by omega, getI_of (List.getElem?_eq_getElem (show j < M.length by omega)), getI_of (List.getElem?_eq_getElem hj)] at h1
    by_cases e : i = j
    · subst e; exact h1
    · have := ih (by omega) (by omega); omega
theorem mok_bts {M : List Int} (h : MOk M) : ∀ x ∈ M, Bts x 1 9 := fun x hx => by
  obtain ⟨i, hi, rfl⟩ := List.mem_iff_getElem.1 hx
  have := (h i hi).1
  rwa [getI_of (List.getElem?_eq_getElem hi)] at this
theorem mok_of {M : List Int} (h : M.Pairwise (· < ·)) (hb : ∀ x ∈ M, Bts x 1 9) : MOk M := fun i hi => by
  rw [List.pairwise_iff_getElem] at h
  refine ⟨by rw [getI_of (List.getElem?_eq_getElem hi)]; exact hb _ (List.getElem_mem hi), fun h0 => ?_⟩
  rw [getI_of (List.getElem?_eq_getElem hi), getI_of (List.getElem?_eq_getElem (show i - 1 < M.length by omega))]
  exact h (i - 1) i (by omega) hi (by omega)
theorem mok_len {M : List Int} (h : MOk M) : M.length ≤ 9 := by
  by_cases hl : M.length ≤ 9
  · exact hl
  exfalso
  have hp := List.pairwise_iff_getElem.1 (mok_pair h)
  have key : ∀ i, (hi : i < M.length) → ((i : Int) + 1) ≤ M[i] := by
    intro i
    induction i with
    | zero => intro hi; have := mok_bts h _ (List.getElem_mem hi); unfold Bts at this; omega
    | succ i ih => intro hi; have h1 := ih (by omega); have h2 := hp i (i + 1) (by omega) hi (by omega); omega
  have h9 := key 9 (by omega)
  have := mok_bts h _ (List.getElem_mem (show 9 < M.length by omega))
  unfold Bts at this
  omega
/-- Ascending rows with the same members are one. -/
theorem asc_ext : ∀ {l k : List Int}, l.Pairwise (· < ·) → k.Pairwise (· < ·) → (∀ y, y ∈ l ↔ y ∈ k) → l = k
  | [], [], _, _, _ => rfl
  | [], y :: k, _, _, h => by have := (h y).2 (List.mem_cons_self ..); cases this
  | x :: l, [], _, _, h => by have := (h x).1 (List.mem_cons_self ..); cases this
  | x :: l, y :: k, h1, h2, h => by
    rw [List.pairwise_cons] at h1 h2
    have e : x = y := by
      rcases List.mem_cons.1 ((h x).1 (List.mem_cons_self ..)) with e | e
      · exact e
      · rcases List.mem_cons.1 ((h y).2 (List.mem_cons_self ..)) with e2 | e2
        · exact e2.symm
        · have := h2.1 x e; have := h1.1 y e2; omega
    subst e
    rw [asc_ext h1.2 h2.2 (fun z => ⟨fun hz => by
      rcases List.mem_cons.1 ((h z).1 (List.mem_cons_of_mem _ hz)) with e | e
      · subst e; exact absurd (h1.1 z hz) (by omega)
      · exact e, fun hz => by
      rcases List.mem_cons.1 ((h z).2 (List.mem_cons_of_mem _ hz)) with e | e
      · subst e; exact absurd (h2.1 z hz) (by omega)
      · exact e⟩)]
/-- A mark put in. -/
def mki (m : Int) : List Int → List Int
  | [] => [m]
  | x :: l => if x < m then x :: mki m l else if x = m then x :: l else m :: x :: l
theorem mem_mki {m y : Int} : ∀ {l : List Int}, y ∈ mki m l ↔ y = m ∨ y ∈ l
  | [] => by simp [mki]
  | x :: l => by
    unfold mki
    by_cases h1 : x < m
    · rw [if_pos h1, List.mem_cons, mem_mki, List.mem_cons]
      constructor
      · rintro (h | h | h) <;> simp [h]
      · rintro (h | h | h) <;> simp [h]
    · rw [if_neg h1]
      by_cases h2 : x = m
      · rw [if_pos h2]; subst h2; simp
      · rw [if_neg h2]; simp
theorem pair_mki {m : Int} : ∀ {l : List Int}, l.Pairwise (· < ·) → (mki m l).Pairwise (· < ·)
  | [], _ => by simp [mki]
  | x :: l, h => by
    rw [List.pairwise_cons] at h
    unfold mki
    by_cases h1 : x < m
    · rw [if_pos h1, List.pairwise_cons]
      exact ⟨fun y hy => (mem_mki.1 hy).elim (fun e => by omega) (fun e => h.1 y e), pair_mki h.2⟩
    · rw [if_neg h1]
      by_cases h2 : x = m
      · rw [if_pos h2, List.pairwise_cons]; exact h
      · rw [if_neg h2, List.pairwise_cons, List.pairwise_cons]
        exact ⟨fun y hy => (List.mem_cons.1 hy).elim (fun e => by omega) (fun e => by have := h.1 y e; omega), h⟩
theorem mki_comm {a b : Int} {l : List Int} (h : l.Pairwise (· < ·)) : mki a (mki b l) = mki b (mki a l) :=
  asc_ext (pair_mki (pair_mki h)) (pair_mki (pair_mki h)) (fun y => by simp only [mem_mki]; constructor <;> (rintro (h | h | h) <;> simp [h]))
theorem mok_mki {m : Int} {l : List Int} (h : MOk l) (hm : Bts m 1 9) : MOk (mki m l) :=
  mok_of (pair_mki (mok_pair h)) (fun x hx => (mem_mki.1 hx).elim (fun e => by rw [e]; exact hm) (fun e => mok_bts h x e))
/-- It is there. -/
theorem mki_has {m : Int} {l : List Int} (h : l.Pairwise (· < ·)) (hm : m ∈ l) : mki m l = l :=
  asc_ext (pair_mki h) h (fun y => by rw [mem_mki]; exact ⟨fun q => q.elim (fun e => by rw [e]; exact hm) id, Or.inr⟩)
/-- It is put where the smaller ones end. -/
theorem mki_at {m : Int} {l : List Int} {i : Nat} (h : l.Pairwise (· < ·)) (h1 : ∀ x ∈ l.take i, x < m) (h2 : ∀ x ∈ l.drop i, m < x) : mki m l = l.take i ++ m :: l.drop i := by
  refine asc_ext (pair_mki h) ?_ (fun y => ?_)
  · rw [List.pairwise_append, List.pairwise_cons]
    exact ⟨h.sublist (List.take_sublist ..), ⟨h2, h.sublist (List.drop_sublist ..)⟩, fun x hx y hy => by
      have a := h1 x hx
      rcases List.mem_cons.1 hy with e | e
      · omega
      · have := h2 y e; omega⟩
  · have e : y ∈ l ↔ y ∈ l.take i ∨ y ∈ l.drop i := by rw [← List.mem_append, List.take_append_drop]
    rw [mem_mki, List.mem_append, List.mem_cons, e]
    constructor
    · rintro (e | e | e)
      · exact Or.inr (Or.inl e)
      · exact Or.inl e
      · exact Or.inr (Or.inr e)
    · rintro (e | e | e)
      · exact Or.inr (Or.inl e)
      · exact Or.inl e
      · exact Or.inr (Or.inr e)
end Go.Proofs.YtonojegnbcgnaaaDoor
