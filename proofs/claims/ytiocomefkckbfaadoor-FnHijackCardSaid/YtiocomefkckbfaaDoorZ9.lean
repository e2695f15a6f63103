/- Ranges: are they ok. Ranges: which stands ahead. Marks; is a route ok. -/
import Derived.Test.YtiocomefkckbfaaDoorZ8
import Derived.Test.YtiocomefkckbfaaDoorZ3
set_option linter.unusedSimpArgs false
set_option linter.unusedVariables false
namespace Go.Proofs.YtiocomefkckbfaaDoor
open Go.RowKit

theorem new22 (w : World) (v0 v1 u0 u1 : Value) (T T' : TypeId) : ((w.alloc (.cells #[v0, v1] T)).alloc (.cells #[u0, u1] T')).cell? ⟨w.heap.size, 0, none⟩ = some v0 ∧ ((w.alloc (.cells #[v0, v1] T)).alloc (.cells #[u0, u1] T')).cell? ⟨w.heap.size, 1, none⟩ = some v1 ∧ ((w.alloc (.cells #[v0, v1] T)).alloc (.cells #[u0, u1] T')).frozen? ⟨w.heap.size, 0, none⟩ = false ∧ ((w.alloc (.cells #[v0, v1] T)).alloc (.cells #[u0, u1] T')).frozen? ⟨w.heap.size, 1, none⟩ = false := by simp
theorem new22' (w : World) (v0 v1 u0 u1 : Value) (T T' : TypeId) : ((w.alloc (.cells #[v0, v1] T)).alloc (.cells #[u0, u1] T')).cell? ⟨w.heap.size + 1, 0, none⟩ = some u0 ∧ ((w.alloc (.cells #[v0, v1] T)).alloc (.cells #[u0, u1] T')).cell? ⟨w.heap.size + 1, 1, none⟩ = some u1 ∧ ((w.alloc (.cells #[v0, v1] T)).alloc (.cells #[u0, u1] T')).frozen? ⟨w.heap.size + 1, 0, none⟩ = false ∧ ((w.alloc (.cells #[v0, v1] T)).alloc (.cells #[u0, u1] T')).frozen? ⟨w.heap.size + 1, 1, none⟩ = false := by simp

def Adr (n : Int) : Prop := 0 ≤ n ∧ n ≤ 255
instance (n : Int) : Decidable (Adr n) := by unfold Adr; infer_instance
def ROk (f b : Int) : Prop := 0 ≤ b ∧ b ≤ 8 ∧ 0 ≤ f ∧ f ≤ 255 ∧ f % sz b = 0
instance (f b : Int) : Decidable (ROk f b) := by unfold ROk; infer_instance

theorem isAddr_any (n : Int) (w : World) :
    Calls Tryd.prog 67 #[.int .i64 n] w fun e w' => e = .returned (.bool (decide (Adr n))) ∧ Below w.heap.size w w' := by
  go_enter Tryd.func67, Tryd.ntmps67
  go_wp2
  all_goals (go_ret; refine ⟨ret_bool ?_, Below.refl _ _⟩; rw [Bool.eq_iff_iff]; simp; unfold Adr; omega)
theorem l1Size_new (b : Int) (w : World) (h0 : 0 ≤ b) (h8 : b ≤ 8) :
    Calls Tryd.prog 73 #[.int .i64 b] w fun e w' => e = .returned (.int .i64 (sz b)) ∧ Below w.heap.size w w' :=
  (l1Size_any b w h0 h8).mono fun _ _ h => ⟨h.1, h.2 ▸ Below.refl _ _⟩
theorem many_any (f b : Int) (h0 : 0 ≤ b) (h8 : b ≤ 8) (w : World) :
    Calls Tryd.prog 68 #[.agg #[.int .i64 f, .int .i64 b]] w fun e w' => e = .returned (.int .i64 (sz b)) ∧ Below w.heap.size w w' := by
  have h1 := sz_pos b
  have h2 := sz_le b h0
  unfold sz at *
  go_enter Tryd.func68, Tryd.ntmps68
  go_wp2
  go_ret
  exact ⟨rfl, (Below.refl _ _).alloc (Nat.le_refl _) _⟩
theorem iRangeOk_any (f b : Int) (w : World) :
    Calls Tryd.prog 45 #[.agg #[.int .i64 f, .int .i64 b]] w fun e w' => e = .returned (.bool (decide (ROk f b))) ∧ Below w.heap.size w w' := by
  have hsz := sz_pos b
  go_enter Tryd.func45, Tryd.ntmps45
  go_wp2
  have c0 := fun x : Cl _ (w.alloc _) => x.c2 (new2 w (.int .i64 f) (.int .i64 b) 25)
  first | refine wp_region_new (by kernel_rfl) (by kernel_rfl) ?_ | refine wp_region_lex ?_
  repeat (any_goals (first | go_big_quiet_step ((first | (go_at_call 67; exact Calls.cl (isAddr_any _ _)) | (go_at_call 68; exact Calls.cl (many_any _ _ (by assumption) (by assumption) _)))) | (refine wpQuiet_step (fun K hK => ?_); go_simp; split <;> (rename_i hg; refine hK _ ?_; clear hK K; simp only [hg, decide_true, decide_false]))))
  all_goals (refine wpQuiet_nil ?_; intro x)
  all_goals go_wp2
  all_goals go_ret
  all_goals (refine ⟨ret_bool ?_, ((Below.refl _ _).alloc (Nat.le_refl _) _).trans (x.below.mono (by simp))⟩)
  all_goals (rw [Bool.eq_iff_iff]; simp; unfold ROk)
  all_goals (try unfold Adr at hg)
  all_goals first | omega | (rw [Int.tmod_eq_emod_of_nonneg (by omega)]; omega)

theorem sRangeOk_any (f b : Int) (w : World) :
    Calls Tryd.prog 51 #[.agg #[.int .i64 f, .int .i64 b]] w fun e w' => e = .returned (.bool (decide (ROk f b))) ∧ Below w.heap.size w w' := by
  have hsz := sz_pos b
  go_enter Tryd.func51, Tryd.ntmps51
  go_wp2
  have c0 := fun x : Cl _ (w.alloc _) => x.c2 (new2 w (.int .i64 f) (.int .i64 b) 25)
  first | refine wp_region_new (by kernel_rfl) (by kernel_rfl) ?_ | refine wp_region_lex ?_
  repeat (any_goals (first | go_big_quiet_step ((first | (go_at_call 53; exact Calls.cl (l6In_any _ _ _ _)) | (go_at_call 73; exact Calls.cl (l1Size_new _ _ (by simp only [Bts] at *; omega) (by simp only [Bts] at *; omega))))) | (refine wpQuiet_step (fun K hK => ?_); go_simp; split <;> (rename_i hg; refine hK _ ?_; clear hK K; simp only [hg, decide_true, decide_false]))))
  all_goals (refine wpQuiet_nil ?_; intro x)
  all_goals go_wp2
  all_goals go_ret
  all_goals (refine ⟨ret_bool ?_, ((Below.refl _ _).alloc (Nat.le_refl _) _).trans (x.below.mono (by simp))⟩)
  all_goals (rw [Bool.eq_iff_iff]; simp; unfold ROk)
  all_goals (simp only [Bts] at *)
  all_goals first | omega | (rw [Int.tmod_eq_emod_of_nonneg (by omega)]; omega)
/-- The address x is in the valid range that begins at f with b bits. -/
def Cov (f b x : Int) : Prop := f ≤ x ∧ x < f + sz b
instance (f b x : Int) : Decidable (Cov f b x) := by unfold Cov; infer_instance
def RIn (f b g c : Int) : Prop := ROk f b ∧ ROk g c ∧ c ≤ b ∧ Cov g c f
instance (f b g c : Int) : Decidable (RIn f b g c) := by unfold RIn; infer_instance
def RHas (f b x : Int) : Prop := ROk f b ∧ Adr x ∧ Cov f b x
instance (f b x : Int) : Decidable (RHas f b x) := by unfold RHas; infer_instance

theorem div_cov {f x s : Int} (hs : 1 ≤ s) (hf : f % s = 0) : x / s = f / s ↔ f ≤ x ∧ x < f + s := by
  have h1 := Int.emod_add_mul_ediv f s
  have h2 := Int.emod_add_mul_ediv x s
  have h3 := Int.emod_nonneg x (show s ≠ 0 by omega)
  have h4 := Int.emod_lt_of_pos x (show 0 < s by omega)
  rw [hf] at h1
  constructor
  · intro e; rw [e] at h2; omega
  · rintro ⟨a, b⟩
    generalize f / s = q at *
    have e' : x = (x - f) + s * q := by omega
    rw [e', Int.add_mul_ediv_left _ _ (by omega), Int.ediv_eq_zero_of_lt (by omega) (by omega)]; omega
end Go.Proofs.YtiocomefkckbfaaDoor
set_option linter.unusedSimpArgs false
set_option linter.unusedVariables false
namespace Go.Proofs.YtiocomefkckbfaaDoor
open Go.RowKit

def rcmp (f b g c : Int) : Int := if icmp f g ≠ 0 then icmp f g else icmp b c
def RC (f b g c : Int) : Int := if ROk f b ∧ ROk g c then rcmp f b g c else 0
end Go.Proofs.YtiocomefkckbfaaDoor
set_option linter.unusedSimpArgs false
set_option linter.unusedVariables false
namespace Go.Proofs.YtiocomefkckbfaaDoor
open Go.RowKit

theorem getI_of {M : List Int} {k : Nat} {x : Int} (h : M[k]? = some x) : M.getD k 0 = x := by simp [List.getD, h]
def StepM (M : List Int) (i : Nat) : Prop := Bts (M.getD i 0) 1 9 ∧ (0 < i → M.getD (i - 1) 0 < M.getD i 0)
instance (M : List Int) (i : Nat) : Decidable (StepM M i) := by unfold StepM; infer_instance
/-- Marks stand ascending. -/
def MOk (M : List Int) : Prop := ∀ i, i < M.length → StepM M i
instance (M : List Int) : Decidable (MOk M) := by unfold MOk; infer_instance
theorem mok_no {M : List Int} {n k : Nat} (hn : M.length = n) (hk : k < n) (h : ¬ StepM M k) : decide (MOk M) = false := decide_eq_false fun g => h (g k (by omega))
theorem mok_yes {M : List Int} {n : Nat} (hn : M.length = n) (h : ∀ j, j < n → StepM M j) : decide (MOk M) = true := decide_eq_true fun i hi => h i (by omega)
theorem step_0 {M : List Int} {x : Int} (h : M[0]? = some x) : StepM M 0 ↔ Bts x 1 9 := by
  unfold StepM; rw [getI_of h]; simp
theorem step_s {M : List Int} {k k' : Nat} {x y : Int} (hk : k' + 1 ≤ k) (hk' : k ≤ k' + 1) (hy : M[k']? = some y) (hx : M[k]? = some x) : StepM M k ↔ Bts x 1 9 ∧ y < x := by
  obtain rfl : k = k' + 1 := by omega
  unfold StepM
  rw [getI_of hx, show k' + 1 - 1 = k' by omega, getI_of hy]
  simp
theorem stepM_go {M : List Int} {k : Nat} {n : Nat} (h : ∀ j, j < k → StepM M j) (hs : StepM M k) : ∀ j, j < k + 1 → StepM M j := fun j hj => by
  by_cases e : j = k
  · subst e; exact hs
  · exact h j (by omega)
theorem iMarks_any (v : Value) (M : List Int) (w : World) (hv : Ints w v M) :
    Calls Tryd.prog 63 #[v] w fun e w' => e = .returned (.bool (decide (MOk M))) ∧ Below w.heap.size w w' := by
  have hF := Fb.start w
  obtain ⟨n, cap, hn, hnc, hcap, ⟨hn0, ao, rfl⟩ | ⟨hn0, b0, off, rfl, hc⟩⟩ := hv.cases
  all_goals
    clear hv
    go_enter Tryd.func63, Tryd.ntmps63
    go_wp2
    go_loopw [3, 4, 7] (fun s3 s4 s7 wr => ∃ k : Nat, k ≤ n ∧ s7 = .int .i64 k ∧ Hid (∀ j, j < k → StepM M j) ∧ Fb w wr []) (fun _ _ s7 _ => n - (intOf s7).toNat)
    case atStart => exact ⟨0, Nat.zero_le _, rfl, (fun j hj => by omega), hF⟩
    case round =>
      clear hF
      obtain ⟨k, hk, rfl, hall, hF⟩ := hrel
      by_cases hlt : k < n
      · try (exfalso; omega)
        all_goals
          obtain ⟨x0, hx⟩ := get_of hn.out hlt
          have HX := Lib.hid hx
          have G0 := Lib.hid (hc.out k x0 hx)
          clear hx
          by_cases h0 : k = 0
          · subst h0
            have G0 := Lib.hid (show w.cell? ⟨b0, off, none⟩ = some (.int .i64 x0) from by have := G0.out; simpa using this)
            have hst := Lib.hid (step_0 HX.out)
            by_cases d1 : Bts x0 1 9
            · have e1 : decide (Bts x0 1 9) = true := by simp [d1]
              have hall2 : Hid (∀ j, j < 0 + 1 → StepM M j) := stepM_go (n := n) hall.out (hst.out.2 d1)
              clear d1
              have c0 := hF.old G0.out
              go_wp2_with (go_at_call 75; refine (isMark_any _ _).mono ?_; rintro e wx ⟨rfl, hbx⟩; replace hF := hF.below hbx; clear hbx; (try (have c1 := hF.old G1.out)))
              go_roundw
              case rel => exact ⟨0 + 1, by omega, by go_num, hall2, hF⟩
              case measure => simp [intOf]; omega
            · have e1 : decide (Bts x0 1 9) = false := by simp [d1]
              have hp := Lib.hid (mok_no hn.out hlt (fun g => d1 (hst.out.1 g)))
              clear d1
              have c0 := hF.old G0.out
              go_wp2_with (go_at_call 75; refine (isMark_any _ _).mono ?_; rintro e wx ⟨rfl, hbx⟩; replace hF := hF.below hbx; clear hbx; (try (have c1 := hF.old G1.out)))
              go_ret
              exact ⟨by rw [hp.out]; rfl, hF.kp⟩
          · obtain ⟨k', hk1, hk2⟩ : ∃ k', k' + 1 ≤ k ∧ k ≤ k' + 1 := ⟨k - 1, by omega, by omega⟩
            have hsub : (k : Int) - 1 = (k' : Int) := by omega
            have hkpos : (0 : Int) < k := by omega
            have hkp : 0 < k := by omega
            have hk'n : k' < n := by omega
            obtain ⟨y0, hy⟩ := get_of hn.out hk'n
            have G1 := Lib.hid (hc.out k' y0 hy)
            have hst := Lib.hid (step_s hk1 hk2 hy HX.out)
            clear hy h0
            by_cases d1 : Bts x0 1 9
            · have e1 : decide (Bts x0 1 9) = true := by simp [d1]
              by_cases d2 : x0 ≤ y0
              · have hp := Lib.hid (mok_no hn.out hlt (fun g => by have := (hst.out.1 g).2; omega))
                clear d1
                have c0 := hF.old G0.out
                go_wp2_with (go_at_call 75; refine (isMark_any _ _).mono ?_; rintro e wx ⟨rfl, hbx⟩; replace hF := hF.below hbx; clear hbx; (try (have c1 := hF.old G1.out)))
                go_ret
                exact ⟨by rw [hp.out]; rfl, hF.kp⟩
              · have hall2 : Hid (∀ j, j < k + 1 → StepM M j) := stepM_go (n := n) hall.out (hst.out.2 ⟨d1, by omega⟩)
                clear d1
                have c0 := hF.old G0.out
                go_wp2_with (go_at_call 75; refine (isMark_any _ _).mono ?_; rintro e wx ⟨rfl, hbx⟩; replace hF := hF.below hbx; clear hbx; (try (have c1 := hF.old G1.out)))
                go_roundw
                case rel => exact ⟨k + 1, by omega, by go_num, hall2, hF⟩
                case measure => simp [intOf]; omega
            · have e1 : decide (Bts x0 1 9) = false := by simp [d1]
              have hp := Lib.hid (mok_no hn.out hlt (fun g => d1 (hst.out.1 g).1))
              clear d1
              have c0 := hF.old G0.out
              go_wp2_with (go_at_call 75; refine (isMark_any _ _).mono ?_; rintro e wx ⟨rfl, hbx⟩; replace hF := hF.below hbx; clear hbx; (try (have c1 := hF.old G1.out)))
              go_ret
              exact ⟨by rw [hp.out]; rfl, hF.kp⟩
      · have hp := Lib.hid (mok_yes hn.out (fun j hj => hall.out j (by omega)))
        go_wp2
        go_ret
        exact ⟨by rw [hp.out]; rfl, hF.kp⟩
theorem sMarks_any (v : Value) (M : List Int) (w : World) (hv : Ints w v M) :
    Calls Tryd.prog 54 #[v] w fun e w' => e = .returned (.bool (decide (MOk M))) ∧ Below w.heap.size w w' := by
  have hF := Fb.start w
  obtain ⟨n, cap, hn, hnc, hcap, ⟨hn0, ao, rfl⟩ | ⟨hn0, b0, off, rfl, hc⟩⟩ := hv.cases
  all_goals
    clear hv
    go_enter Tryd.func54, Tryd.ntmps54
    go_wp2
    go_loopw [3] (fun s3 wr => ∃ k : Nat, k ≤ n ∧ s3 = .int .i64 k ∧ Hid (∀ j, j < k → StepM M j) ∧ Fb w wr []) (fun s3 _ => n - (intOf s3).toNat)
    case atStart => exact ⟨0, Nat.zero_le _, rfl, (fun j hj => by omega), hF⟩
    case round =>
      clear hF
      obtain ⟨k, hk, rfl, hall, hF⟩ := hrel
      by_cases hlt : k < n
      · try (exfalso; omega)
        all_goals
          obtain ⟨x0, hx⟩ := get_of hn.out hlt
          have HX := Lib.hid hx
          have G0 := Lib.hid (hc.out k x0 hx)
          clear hx
          by_cases h0 : k = 0
          · subst h0
            have G0 := Lib.hid (show w.cell? ⟨b0, off, none⟩ = some (.int .i64 x0) from by have := G0.out; simpa using this)
            have hst := Lib.hid (step_0 HX.out)
            by_cases d1 : Bts x0 1 9
            · have e1 : decide (Bts x0 1 9) = true := by simp [d1]
              have hall2 : Hid (∀ j, j < 0 + 1 → StepM M j) := stepM_go (n := n) hall.out (hst.out.2 d1)
              clear d1
              have c0 := fun z : Cl wr.heap.size wr => Cl.old hF z G0.out
              (try (have c1 := fun z : Cl wr.heap.size wr => Cl.old hF z G1.out))
              go_wp2
              first | refine wp_region_new (by kernel_rfl) (by kernel_rfl) ?_ | refine wp_region_lex ?_
              repeat (any_goals (first | go_big_quiet_step (((go_at_call 53; exact Calls.cl (l6In_any _ _ _ _)))) | (refine wpQuiet_step (fun K hK => ?_); go_simp; split <;> (rename_i hg; refine hK _ ?_; clear hK K; simp only [hg, decide_true, decide_false]))))
              all_goals (refine wpQuiet_nil ?_; intro x)
              go_wp2
              go_roundw
              case rel => exact ⟨0 + 1, by omega, by go_num, hall2, hF.cl x⟩
              case measure => simp [intOf]; omega
            · have e1 : decide (Bts x0 1 9) = false := by simp [d1]
              have hp := Lib.hid (mok_no hn.out hlt (fun g => d1 (hst.out.1 g)))
              clear d1
              have c0 := fun z : Cl wr.heap.size wr => Cl.old hF z G0.out
              (try (have c1 := fun z : Cl wr.heap.size wr => Cl.old hF z G1.out))
              go_wp2
              first | refine wp_region_new (by kernel_rfl) (by kernel_rfl) ?_ | refine wp_region_lex ?_
              repeat (any_goals (first | go_big_quiet_step (((go_at_call 53; exact Calls.cl (l6In_any _ _ _ _)))) | (refine wpQuiet_step (fun K hK => ?_); go_simp; split <;> (rename_i hg; refine hK _ ?_; clear hK K; simp only [hg, decide_true, decide_false]))))
              all_goals (refine wpQuiet_nil ?_; intro x)
              go_wp2
              go_ret
              exact ⟨by rw [hp.out]; rfl, (hF.cl x).kp⟩
          · obtain ⟨k', hk1, hk2⟩ : ∃ k', k' + 1 ≤ k ∧ k ≤ k' + 1 := ⟨k - 1, by omega, by omega⟩
            have hsub : (k : Int) - 1 = (k' : Int) := by omega
            have hkpos : (0 : Int) < k := by omega
            have hkp : 0 < k := by omega
            have hk'n : k' < n := by omega
            obtain ⟨y0, hy⟩ := get_of hn.out hk'n
            have G1 := Lib.hid (hc.out k' y0 hy)
            have hst := Lib.hid (step_s hk1 hk2 hy HX.out)
            clear hy h0
            by_cases d1 : Bts x0 1 9
            · have e1 : decide (Bts x0 1 9) = true := by simp [d1]
              by_cases d2 : x0 ≤ y0
              · have hp := Lib.hid (mok_no hn.out hlt (fun g => by have := (hst.out.1 g).2; omega))
                clear d1
                have c0 := fun z : Cl wr.heap.size wr => Cl.old hF z G0.out
                (try (have c1 := fun z : Cl wr.heap.size wr => Cl.old hF z G1.out))
                go_wp2
                first | refine wp_region_new (by kernel_rfl) (by kernel_rfl) ?_ | refine wp_region_lex ?_
                repeat (any_goals (first | go_big_quiet_step (((go_at_call 53; exact Calls.cl (l6In_any _ _ _ _)))) | (refine wpQuiet_step (fun K hK => ?_); go_simp; split <;> (rename_i hg; refine hK _ ?_; clear hK K; simp only [hg, decide_true, decide_false]))))
                all_goals (refine wpQuiet_nil ?_; intro x)
                go_wp2
                go_ret
                exact ⟨by rw [hp.out]; rfl, (hF.cl x).kp⟩
              · have hall2 : Hid (∀ j, j < k + 1 → StepM M j) := stepM_go (n := n) hall.out (hst.out.2 ⟨d1, by omega⟩)
                clear d1
                have c0 := fun z : Cl wr.heap.size wr => Cl.old hF z G0.out
                (try (have c1 := fun z : Cl wr.heap.size wr => Cl.old hF z G1.out))
                go_wp2
                first | refine wp_region_new (by kernel_rfl) (by kernel_rfl) ?_ | refine wp_region_lex ?_
                repeat (any_goals (first | go_big_quiet_step (((go_at_call 53; exact Calls.cl (l6In_any _ _ _ _)))) | (refine wpQuiet_step (fun K hK => ?_); go_simp; split <;> (rename_i hg; refine hK _ ?_; clear hK K; simp only [hg, decide_true, decide_false]))))
                all_goals (refine wpQuiet_nil ?_; intro x)
                go_wp2
                go_roundw
                case rel => exact ⟨k + 1, by omega, by go_num, hall2, hF.cl x⟩
                case measure => simp [intOf]; omega
            · have e1 : decide (Bts x0 1 9) = false := by simp [d1]
              have hp := Lib.hid (mok_no hn.out hlt (fun g => d1 (hst.out.1 g).1))
              clear d1
              have c0 := fun z : Cl wr.heap.size wr => Cl.old hF z G0.out
              (try (have c1 := fun z : Cl wr.heap.size wr => Cl.old hF z G1.out))
              go_wp2
              first | refine wp_region_new (by kernel_rfl) (by kernel_rfl) ?_ | refine wp_region_lex ?_
              repeat (any_goals (first | go_big_quiet_step (((go_at_call 53; exact Calls.cl (l6In_any _ _ _ _)))) | (refine wpQuiet_step (fun K hK => ?_); go_simp; split <;> (rename_i hg; refine hK _ ?_; clear hK K; simp only [hg, decide_true, decide_false]))))
              all_goals (refine wpQuiet_nil ?_; intro x)
              go_wp2
              go_ret
              exact ⟨by rw [hp.out]; rfl, (hF.cl x).kp⟩
      · have hp := Lib.hid (mok_yes hn.out (fun j hj => hall.out j (by omega)))
        go_wp2
        go_ret
        exact ⟨by rw [hp.out]; rfl, hF.kp⟩
end Go.Proofs.YtiocomefkckbfaaDoor
