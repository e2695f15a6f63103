/- Ranges: what each function on ranges returns. -/
import Derived.Test.YtbhenfegklgkoaaDb
import Derived.Test.YtbhenfegklgkoaaKa
set_option linter.unusedSimpArgs false
set_option linter.unusedVariables false
namespace Go.Proofs.Ytbhenfegklgkoaa
open Go.RowKit

theorem new22 (w : World) (v0 v1 u0 u1 : Value) (T T' : TypeId) : ((w.alloc (.cells #[v0, v1] T)).alloc (.cells #[u0, u1] T')).cell? ⟨w.heap.size, 0, none⟩ = some v0 ∧ ((w.alloc (.cells #[v0, v1] T)).alloc (.cells #[u0, u1] T')).cell? ⟨w.heap.size, 1, none⟩ = some v1 ∧ ((w.alloc (.cells #[v0, v1] T)).alloc (.cells #[u0, u1] T')).frozen? ⟨w.heap.size, 0, none⟩ = false ∧ ((w.alloc (.cells #[v0, v1] T)).alloc (.cells #[u0, u1] T')).frozen? ⟨w.heap.size, 1, none⟩ = false := by simp
theorem new22' (w : World) (v0 v1 u0 u1 : Value) (T T' : TypeId) : ((w.alloc (.cells #[v0, v1] T)).alloc (.cells #[u0, u1] T')).cell? ⟨w.heap.size + 1, 0, none⟩ = some u0 ∧ ((w.alloc (.cells #[v0, v1] T)).alloc (.cells #[u0, u1] T')).cell? ⟨w.heap.size + 1, 1, none⟩ = some u1 ∧ ((w.alloc (.cells #[v0, v1] T)).alloc (.cells #[u0, u1] T')).frozen? ⟨w.heap.size + 1, 0, none⟩ = false ∧ ((w.alloc (.cells #[v0, v1] T)).alloc (.cells #[u0, u1] T')).frozen? ⟨w.heap.size + 1, 1, none⟩ = false := by simp

def Adr (n : Int) : Prop := 0 ≤ n ∧ n ≤ 255
instance (n : Int) : Decidable (Adr n) := by unfold Adr; infer_instance
def ROk (f b : Int) : Prop := 0 ≤ b ∧ b ≤ 8 ∧ 0 ≤ f ∧ f ≤ 255 ∧ f % sz b = 0
instance (f b : Int) : Decidable (ROk f b) := by unfold ROk; infer_instance

theorem isAddr_any (n : Int) (w : World) :
    Calls Try.prog 48 #[.int .i64 n] w fun e w' => e = .returned (.bool (decide (Adr n))) ∧ Below w.heap.size w w' := by
  go_enter Try.func48, Try.ntmps48
  go_wp2
  all_goals (go_ret; refine ⟨ret_bool ?_, Below.refl _ _⟩; rw [Bool.eq_iff_iff]; simp; unfold Adr; omega)
theorem l1Size_new (b : Int) (w : World) (h0 : 0 ≤ b) (h8 : b ≤ 8) :
    Calls Try.prog 64 #[.int .i64 b] w fun e w' => e = .returned (.int .i64 (sz b)) ∧ Below w.heap.size w w' :=
  (l1Size_any b w h0 h8).mono fun _ _ h => ⟨h.1, h.2 ▸ Below.refl _ _⟩
theorem many_any (f b : Int) (h0 : 0 ≤ b) (h8 : b ≤ 8) (w : World) :
    Calls Try.prog 55 #[.agg #[.int .i64 f, .int .i64 b]] w fun e w' => e = .returned (.int .i64 (sz b)) ∧ Below w.heap.size w w' := by
  have h1 := sz_pos b
  have h2 := sz_le b h0
  unfold sz at *
  go_enter Try.func55, Try.ntmps55
  go_wp2
  go_ret
  exact ⟨rfl, (Below.refl _ _).alloc (Nat.le_refl _) _⟩
theorem iRangeOk_any (f b : Int) (w : World) :
    Calls Try.prog 53 #[.agg #[.int .i64 f, .int .i64 b]] w fun e w' => e = .returned (.bool (decide (ROk f b))) ∧ Below w.heap.size w w' := by
  have hsz := sz_pos b
  go_enter Try.func53, Try.ntmps53
  go_wp2
  have c0 := fun x : Cl _ (w.alloc _) => x.c2 (new2 w (.int .i64 f) (.int .i64 b) 27)
  first | refine wp_region_new (by kernel_rfl) (by kernel_rfl) ?_ | refine wp_region_lex ?_
  repeat (any_goals (first | go_big_quiet_step ((first | (go_at_call 48; exact Calls.cl (isAddr_any _ _)) | (go_at_call 55; exact Calls.cl (many_any _ _ (by assumption) (by assumption) _)))) | (refine wpQuiet_step (fun K hK => ?_); go_simp; split <;> (rename_i hg; refine hK _ ?_; clear hK K; simp only [hg, decide_true, decide_false]))))
  all_goals (refine wpQuiet_nil ?_; intro x)
  all_goals go_wp2
  all_goals go_ret
  all_goals (refine ⟨ret_bool ?_, ((Below.refl _ _).alloc (Nat.le_refl _) _).trans (x.below.mono (by simp))⟩)
  all_goals (rw [Bool.eq_iff_iff]; simp; unfold ROk)
  all_goals (try unfold Adr at hg)
  all_goals first | omega | (rw [Int.tmod_eq_emod_of_nonneg (by omega)]; omega)

theorem sRangeOk_any (f b : Int) (w : World) :
    Calls Try.prog 38 #[.agg #[.int .i64 f, .int .i64 b]] w fun e w' => e = .returned (.bool (decide (ROk f b))) ∧ Below w.heap.size w w' := by
  have hsz := sz_pos b
  go_enter Try.func38, Try.ntmps38
  go_wp2
  have c0 := fun x : Cl _ (w.alloc _) => x.c2 (new2 w (.int .i64 f) (.int .i64 b) 27)
  first | refine wp_region_new (by kernel_rfl) (by kernel_rfl) ?_ | refine wp_region_lex ?_
  repeat (any_goals (first | go_big_quiet_step ((first | (go_at_call 51; exact Calls.cl (l6In_any _ _ _ _)) | (go_at_call 64; exact Calls.cl (l1Size_new _ _ (by simp only [Bts] at *; omega) (by simp only [Bts] at *; omega))))) | (refine wpQuiet_step (fun K hK => ?_); go_simp; split <;> (rename_i hg; refine hK _ ?_; clear hK K; simp only [hg, decide_true, decide_false]))))
  all_goals (refine wpQuiet_nil ?_; intro x)
  all_goals go_wp2
  all_goals go_ret
  all_goals (refine ⟨ret_bool ?_, ((Below.refl _ _).alloc (Nat.le_refl _) _).trans (x.below.mono (by simp))⟩)
  all_goals (rw [Bool.eq_iff_iff]; simp; unfold ROk)
  all_goals (simp only [Bts] at *)
  all_goals first | omega | (rw [Int.tmod_eq_emod_of_nonneg (by omega)]; omega)

/-- The address x is in the valid range that begins at f with b bits. -/
def Cov (f b x : Int) : Prop := f ≤ x ∧ x < f + sz b
instance (f b x : Int) : Decidable (Cov f b x) := by unfold Cov; infer_instance
def RIn (f b g c : Int) : Prop := ROk f b ∧ ROk g c ∧ c ≤ b ∧ Cov g c f
instance (f b g c : Int) : Decidable (RIn f b g c) := by unfold RIn; infer_instance
def RHas (f b x : Int) : Prop := ROk f b ∧ Adr x ∧ Cov f b x
instance (f b x : Int) : Decidable (RHas f b x) := by unfold RHas; infer_instance

theorem div_cov {f x s : Int} (hs : 1 ≤ s) (hf : f % s = 0) : x / s = f / s ↔ f ≤ x ∧ x < f + s := by
  have h1 := Int.emod_add_mul_ediv f s
  have h2 := Int.emod_add_mul_ediv x s
  have h3 := Int.emod_nonneg x (show s ≠ 0 by omega)
  have h4 := Int.emod_lt_of_pos x (show 0 < s by omega)
  rw [hf] at h1
  constructor
  · intro e; rw [e] at h2; omega
  · rintro ⟨a, b⟩
    generalize f / s = q at *
    have e' : x = (x - f) + s * q := by omega
    rw [e', Int.add_mul_ediv_left _ _ (by omega), Int.ediv_eq_zero_of_lt (by omega) (by omega)]; omega

theorem covers_any (f b x : Int) (h : ROk f b) (hx : 0 ≤ x) (hx' : x ≤ 255) (w : World) :
    Calls Try.prog 54 #[.agg #[.int .i64 f, .int .i64 b], .int .i64 x] w fun e w' => e = .returned (.bool (decide (Cov f b x))) ∧ Below w.heap.size w w' := by
  have hsz := sz_pos b
  obtain ⟨h0, h8, hf, hf', hm⟩ := h
  have hsz' := sz_le b h0
  have HM := Lib.hid hm; clear hm
  go_enter Try.func54, Try.ntmps54
  go_wp2
  have c0 := fun x : Cl _ (w.alloc _) => x.c2 (new2 w (.int .i64 f) (.int .i64 b) 27)
  first | refine wp_region_new (by kernel_rfl) (by kernel_rfl) ?_ | refine wp_region_lex ?_
  repeat (any_goals (first | go_big_quiet_step (((go_at_call 55; exact Calls.cl (many_any _ _ h0 h8 _)))) | (refine wpQuiet_step (fun K hK => ?_); go_simp; split <;> (rename_i hg; refine hK _ ?_; clear hK K; simp only [hg, decide_true, decide_false]))))
  all_goals (refine wpQuiet_nil ?_; intro x)
  all_goals go_wp2
  all_goals go_ret
  all_goals (refine ⟨ret_bool ?_, ((Below.refl _ _).alloc (Nat.le_refl _) _).trans (x.below.mono (by simp))⟩; rw [Bool.eq_iff_iff]; simp; unfold Cov; omega)
theorem l1Has_any (f b x : Int) (h : ROk f b) (hx : 0 ≤ x) (hx' : x ≤ 255) (w : World) :
    Calls Try.prog 70 #[.agg #[.int .i64 f, .int .i64 b], .int .i64 x] w fun e w' => e = .returned (.bool (decide (Cov f b x))) ∧ Below w.heap.size w w' := by
  have hsz := sz_pos b
  obtain ⟨h0, h8, hf, hf', hm⟩ := h
  have hsz' := sz_le b h0
  have HM := Lib.hid hm; clear hm
  go_enter Try.func70, Try.ntmps70
  go_wp2
  have c0 := fun x : Cl _ (w.alloc _) => x.c2 (new2 w (.int .i64 f) (.int .i64 b) 27)
  first | refine wp_region_new (by kernel_rfl) (by kernel_rfl) ?_ | refine wp_region_lex ?_
  repeat (any_goals (first | go_big_quiet_step (((go_at_call 64; exact Calls.cl (l1Size_new _ _ h0 h8)))) | (refine wpQuiet_step (fun K hK => ?_); go_simp; split <;> (rename_i hg; refine hK _ ?_; clear hK K; simp only [hg, decide_true, decide_false]))))
  all_goals (refine wpQuiet_nil ?_; intro x)
  all_goals go_wp2
  all_goals go_ret
  all_goals (refine ⟨ret_bool ?_, ((Below.refl _ _).alloc (Nat.le_refl _) _).trans (x.below.mono (by simp))⟩)
  rw [Bool.eq_iff_iff]; simp; unfold Cov; exact div_cov hsz HM.out
theorem iRangeHas_any (f b x : Int) (w : World) :
    Calls Try.prog 21 #[.agg #[.int .i64 f, .int .i64 b], .int .i64 x] w fun e w' => e = .returned (.bool (decide (RHas f b x))) ∧ Below w.heap.size w w' := by
  go_enter Try.func21, Try.ntmps21
  go_upto_region 1 with (fail)
  have c0 := fun x : Cl _ (w.alloc _) => x.c2 (new2 w (.int .i64 f) (.int .i64 b) 27)
  first | refine wp_region_new (by kernel_rfl) (by kernel_rfl) ?_ | refine wp_region_lex ?_
  repeat (any_goals (first | go_big_quiet_step ((first | (go_at_call 53; exact Calls.cl (iRangeOk_any _ _ _)) | (go_at_call 48; exact Calls.cl (isAddr_any _ _)) | (go_at_call 54; exact Calls.cl (covers_any _ _ _ (by assumption) (by unfold Adr at *; omega) (by unfold Adr at *; omega) _)))) | (refine wpQuiet_step (fun K hK => ?_); go_simp; split <;> (rename_i hg; refine hK _ ?_; clear hK K; simp only [hg, decide_true, decide_false]))))
  all_goals (refine wpQuiet_nil ?_; intro x)
  all_goals go_wp2
  all_goals go_ret
  all_goals (refine ⟨ret_bool ?_, ((Below.refl _ _).alloc (Nat.le_refl _) _).trans (x.below.mono (by simp))⟩; refine Bool.eq_iff_iff.2 ?_; (try simp); try (unfold RHas; first | (simp [*]; done) | (simp [*]; intros; omega) | omega))
theorem iRangeIn_any (f b g c : Int) (w : World) :
    Calls Try.prog 22 #[.agg #[.int .i64 f, .int .i64 b], .agg #[.int .i64 g, .int .i64 c]] w fun e w' => e = .returned (.bool (decide (RIn f b g c))) ∧ Below w.heap.size w w' := by
  go_enter Try.func22, Try.ntmps22
  go_upto_region 1 with (fail)
  have c0 := fun x : Cl _ ((w.alloc _).alloc _) => x.c2 (new22 w (.int .i64 f) (.int .i64 b) (.int .i64 g) (.int .i64 c) 27 27)
  have c1 := fun x : Cl _ ((w.alloc _).alloc _) => x.c2 (new22' w (.int .i64 f) (.int .i64 b) (.int .i64 g) (.int .i64 c) 27 27)
  first | refine wp_region_new (by kernel_rfl) (by kernel_rfl) ?_ | refine wp_region_lex ?_
  repeat (any_goals (first | go_big_quiet_step ((first | (go_at_call 53; exact Calls.cl (iRangeOk_any _ _ _)) | (go_at_call 54; exact Calls.cl (covers_any _ _ _ (by assumption) (by simp only [ROk] at *; omega) (by simp only [ROk] at *; omega) _)))) | (refine wpQuiet_step (fun K hK => ?_); go_simp; split <;> (rename_i hg; refine hK _ ?_; clear hK K; simp only [hg, decide_true, decide_false]))))
  all_goals (refine wpQuiet_nil ?_; intro x)
  all_goals go_wp2
  all_goals go_ret
  all_goals (refine ⟨ret_bool ?_, (((Below.refl _ _).alloc (Nat.le_refl _) _).alloc (by simp) _).trans (x.below.mono (by simp; omega))⟩; refine Bool.eq_iff_iff.2 ?_; (try simp); try (unfold RIn; first | (simp [*]; done) | (simp [*]; intros; omega) | omega))
theorem iRangeMany_any (f b : Int) (w : World) :
    Calls Try.prog 23 #[.agg #[.int .i64 f, .int .i64 b]] w fun e w' => e = .returned (.int .i64 (if ROk f b then sz b else 0)) ∧ Below w.heap.size w w' := by
  by_cases h : ROk f b
  · have hd : decide (ROk f b) = true := by simp [h]
    rw [if_pos h]
    go_enter Try.func23, Try.ntmps23
    go_wp2_with fail
    refine (iRangeOk_any f b _).mono ?_; rintro e w1 ⟨rfl, hb⟩
    have c0 := (bcell hb).1
    go_wp2_with fail
    refine (many_any f b h.1 h.2.1 _).mono ?_; rintro e w2 ⟨rfl, hb2⟩
    go_wp2
    go_ret
    exact ⟨rfl, ((Below.refl _ _).alloc (Nat.le_refl _) _).trans ((hb.trans (hb2.mono hb.size)).mono (by simp))⟩
  · have hd : decide (ROk f b) = false := by simp [h]
    rw [if_neg h]
    go_enter Try.func23, Try.ntmps23
    go_wp2_with fail
    refine (iRangeOk_any f b _).mono ?_; rintro e w1 ⟨rfl, hb⟩
    go_wp2
    go_ret
    exact ⟨rfl, ((Below.refl _ _).alloc (Nat.le_refl _) _).trans (hb.mono (by simp))⟩

/-- Of two numbers: which is less. -/
def icmp (a b : Int) : Int := if a < b then -1 else if b < a then 1 else 0
def rcmp (f b g c : Int) : Int := if icmp f g ≠ 0 then icmp f g else icmp b c
def RC (f b g c : Int) : Int := if ROk f b ∧ ROk g c then rcmp f b g c else 0
theorem icmp_bd (a b : Int) : -1 ≤ icmp a b ∧ icmp a b ≤ 1 := by unfold icmp; split <;> (try split) <;> omega
theorem isNaN_any (a : Int) (w : World) : Calls Try.prog 77 #[.int .i64 a] w fun e w' => e = .returned (.bool false) ∧ w = w' := by
  go_enter Try.func77, Try.ntmps77
  go_wp2
  go_ret
  exact ⟨by simp, rfl⟩
theorem compare_any (a b : Int) (w : World) : Calls Try.prog 67 #[.int .i64 a, .int .i64 b] w fun e w' => e = .returned (.int .i64 (icmp a b)) ∧ w = w' := by
  rcases Int.lt_trichotomy a b with h | rfl | h
  · have e : icmp a b = -1 := by simp [icmp, h]
    rw [e]; clear e
    go_enter Try.func67, Try.ntmps67
    go_wp2_with (go_at_call 77; refine (isNaN_any _ _).mono ?_; rintro e w' ⟨rfl, rfl⟩)
    go_ret
    exact ⟨rfl, rfl⟩
  · have e : icmp a a = 0 := by simp [icmp]
    rw [e]; clear e
    go_enter Try.func67, Try.ntmps67
    go_wp2_with (go_at_call 77; refine (isNaN_any _ _).mono ?_; rintro e w' ⟨rfl, rfl⟩)
    go_ret
    exact ⟨rfl, rfl⟩
  · have e : icmp a b = 1 := by unfold icmp; rw [if_neg (by omega), if_pos h]
    have h2 : ¬ a < b := by omega
    rw [e]; clear e
    go_enter Try.func67, Try.ntmps67
    go_wp2_with (go_at_call 77; refine (isNaN_any _ _).mono ?_; rintro e w' ⟨rfl, rfl⟩)
    go_ret
    exact ⟨rfl, rfl⟩
/-- The first that is not nought. -/
def orI (zs : List Int) : Int := (zs.find? (· != 0)).getD 0
theorem orI_at (zs : List Int) : ∀ k, (∀ i, i < k → zs.getD i 0 = 0) → (k < zs.length → zs.getD k 0 ≠ 0) → orI zs = zs.getD k 0 := by
  induction zs with
  | nil => intro k _ _; simp [orI]
  | cons z zs ih =>
    intro k h0 h1
    cases k with
    | zero => have := h1 (by simp); simp at this; simp [orI, List.find?_cons, this]
    | succ k =>
      have e : z = 0 := by simpa using h0 0 (by omega)
      have := ih k (fun i hi => by simpa using h0 (i + 1) (by omega)) (fun hk => by simpa using h1 (by simpa using hk))
      simpa [orI, List.find?_cons, e] using this
theorem orI_nil : orI [] = 0 := rfl
theorem orI_cons (z : Int) (zs : List Int) : orI (z :: zs) = if z = 0 then orI zs else z := by
  by_cases h : z = 0
  · simp [orI, List.find?_cons, h]
  · have : (z != 0) = true := by simpa using h
    simp [orI, List.find?_cons, this, h]
theorem or_any (b off cap : Nat) (zs : List Int) (w : World) (hc : ∀ i : Nat, i < zs.length → w.cell? ⟨b, off + i, none⟩ = some (.int .i64 (zs.getD i 0))) (hn : zs.length ≤ 1000000) :
    Calls Try.prog 66 #[.slice (some ⟨b, off, none⟩) zs.length cap] w fun e w' => e = .returned (.int .i64 (orI zs)) ∧ w = w' := by
  have hm := Lib.hid (orI_at zs)
  generalize hN : zs.length = N at *
  have HN := Lib.hid hN; clear hN
  go_enter Try.func66, Try.ntmps66
  go_wp2
  go_loop [8, 5] (fun i _ => ∃ k : Nat, k ≤ N ∧ i = .int .i64 k ∧ ∀ j, j < k → zs.getD j 0 = 0) (fun i _ => N - (intOf i).toNat)
  case atStart => exact ⟨0, Nat.zero_le _, rfl, fun j hj => by omega⟩
  case round =>
    obtain ⟨k, hk, rfl, hz⟩ := hrel
    have hz' := Lib.hid hz; clear hz
    have hcell : k < N → w.cell? ⟨b, off + k, none⟩ = some (.int .i64 (zs.getD k 0)) := hc k
    clear hc
    have HD : Hid (∃ z, z = zs.getD k 0) := ⟨_, rfl⟩
    obtain ⟨z, hz⟩ := HD.out
    rw [← hz] at hcell
    have HZ := Lib.hid hz; clear hz HD
    go_wp2
    · go_ret
      have h1 : (z != 0) = true := by assumption
      have h2 : k < N := by assumption
      refine ⟨ret_int ?_, rfl⟩
      rw [hm.out k hz'.out (fun _ => by rw [← HZ.out]; simpa using h1)]; exact HZ.out
    · have h1 : (z != 0) = false := by assumption
      have h2 : k < N := by assumption
      go_round
      case rel =>
        refine ⟨k + 1, by omega, by go_num, fun j hj => ?_⟩
        by_cases e : j = k
        · rw [e, ← HZ.out]; simpa using h1
        · exact hz'.out j (by omega)
      case measure => simp [intOf]; omega
    · go_ret
      refine ⟨ret_int ?_, rfl⟩
      have h2 : ¬ k < N := by assumption
      rw [hm.out k hz'.out (fun h => by omega)]
      have := HN.out
      simp [List.getD]; rw [List.getElem?_eq_none (by omega)]; rfl

theorem iRangeCmp_any (f b g c : Int) (w : World) :
    Calls Try.prog 45 #[.agg #[.int .i64 f, .int .i64 b], .agg #[.int .i64 g, .int .i64 c]] w fun e w' => e = .returned (.int .i64 (RC f b g c)) ∧ Below w.heap.size w w' := by
  unfold RC
  by_cases h : ROk f b
  · have hd : decide (ROk f b) = true := by simp [h]
    by_cases h' : ROk g c
    · have hd' : decide (ROk g c) = true := by simp [h']
      rw [if_pos ⟨h, h'⟩]
      go_enter Try.func45, Try.ntmps45
      go_wp2_with fail
      refine (iRangeOk_any f b _).mono ?_; rintro e w1 ⟨rfl, hb⟩
      have c1 := (bcell hb).1
      go_wp2_with fail
      refine (iRangeOk_any g c _).mono ?_; rintro e w2 ⟨rfl, hb2⟩
      replace hb := hb.trans (hb2.mono hb.size)
      clear c1
      have c2 : w2.cell? ⟨w.heap.size, 0, none⟩ = some (.int .i64 f) ∧ w2.cell? ⟨w.heap.size, 1, none⟩ = some (.int .i64 b) ∧ w2.cell? ⟨w.heap.size + 1, 0, none⟩ = some (.int .i64 g) ∧ w2.cell? ⟨w.heap.size + 1, 1, none⟩ = some (.int .i64 c) :=
        ⟨(hb.cell (by simp; omega)).trans (by simp), (hb.cell (by simp; omega)).trans (by simp), (hb.cell (by simp)).trans (by simp), (hb.cell (by simp)).trans (by simp)⟩
      have hs := hb.size
      go_wp2_with fail
      go_region_held3 (fun w' => w'.cell? ⟨w.heap.size, 0, none⟩ = some (.int .i64 f) ∧ w'.cell? ⟨w.heap.size, 1, none⟩ = some (.int .i64 b) ∧ w'.cell? ⟨w.heap.size + 1, 0, none⟩ = some (.int .i64 g) ∧ w'.cell? ⟨w.heap.size + 1, 1, none⟩ = some (.int .i64 c)) (first | (simp [c2]; done) | go_keep)
        (first
          | (go_at_call 67; refine (compare_any _ _ _).mono ?_; rintro e w' ⟨rfl, rfl⟩)
          | (go_at_call 66; refine (or_any _ 0 2 [icmp f g, icmp b c] _ ?_ (by simp)).mono ?_; (intro i hi; match i, hi with | 0, _ => simp | 1, _ => simp); rintro e w' ⟨rfl, rfl⟩))
      all_goals go_wp2
      all_goals go_ret
      all_goals refine ⟨ret_int ?_, (((Below.refl _ _).alloc (Nat.le_refl _) _).alloc (by simp) _).trans ((((hb.drew).alloc hs _)).mono (by simp; omega))⟩
      all_goals (simp only [orI_cons, orI_nil, rcmp]; split <;> (try split) <;> simp_all)
    · have hd' : decide (ROk g c) = false := by simp [h']
      rw [if_neg (fun x => h' x.2)]
      go_enter Try.func45, Try.ntmps45
      go_wp2_with fail
      refine (iRangeOk_any f b _).mono ?_; rintro e w1 ⟨rfl, hb⟩
      have c1 := (bcell hb).1
      go_wp2_with fail
      refine (iRangeOk_any g c _).mono ?_; rintro e w2 ⟨rfl, hb2⟩
      replace hb := hb.trans (hb2.mono hb.size)
      go_wp2
      go_ret
      exact ⟨rfl, (((Below.refl _ _).alloc (Nat.le_refl _) _).alloc (by simp) _).trans (hb.mono (by simp; omega))⟩
  · have hd : decide (ROk f b) = false := by simp [h]
    rw [if_neg (fun x => h x.1)]
    go_enter Try.func45, Try.ntmps45
    go_wp2_with fail
    refine (iRangeOk_any f b _).mono ?_; rintro e w1 ⟨rfl, hb⟩
    go_wp2
    go_ret
    exact ⟨rfl, (((Below.refl _ _).alloc (Nat.le_refl _) _).alloc (by simp) _).trans (hb.mono (by simp; omega))⟩
theorem l1Cmp_any (f b g c : Int) (w : World) :
    Calls Try.prog 47 #[.agg #[.int .i64 f, .int .i64 b], .agg #[.int .i64 g, .int .i64 c]] w fun e w' => e = .returned (.int .i64 (rcmp f b g c)) ∧ Below w.heap.size w w' := by
  have e : rcmp f b g c = if f < g then -1 else if g < f then 1 else if b < c then -1 else if c < b then 1 else 0 := by
    unfold rcmp icmp; by_cases h1 : f < g <;> by_cases h2 : g < f <;> simp [h1, h2]
  have E := Lib.hid e; clear e
  go_enter Try.func47, Try.ntmps47
  go_wp2
  all_goals go_ret
  all_goals refine ⟨ret_int ?_, (((Below.refl _ _).alloc (Nat.le_refl _) _).alloc (by simp) _)⟩
  all_goals rw [E.out]
  all_goals (repeat' split) <;> first | rfl | omega
end Go.Proofs.Ytbhenfegklgkoaa
