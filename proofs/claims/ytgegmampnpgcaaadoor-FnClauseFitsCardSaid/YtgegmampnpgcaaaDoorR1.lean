/- Ranges: are they ok. -/
import Derived.Test.YtgegmampnpgcaaaDoorDb
import Derived.Test.YtgegmampnpgcaaaDoorKa
set_option linter.unusedSimpArgs false
set_option linter.unusedVariables false
namespace Go.Proofs.YtgegmampnpgcaaaDoor
open Go.RowKit

theorem new22 (w : World) (v0 v1 u0 u1 : Value) (T T' : TypeId) : ((w.alloc (.cells #[v0, v1] T)).alloc (.cells #[u0, u1] T')).cell? ⟨w.heap.size, 0, none⟩ = some v0 ∧ ((w.alloc (.cells #[v0, v1] T)).alloc (.cells #[u0, u1] T')).cell? ⟨w.heap.size, 1, none⟩ = some v1 ∧ ((w.alloc (.cells #[v0, v1] T)).alloc (.cells #[u0, u1] T')).frozen? ⟨w.heap.size, 0, none⟩ = false ∧ ((w.alloc (.cells #[v0, v1] T)).alloc (.cells #[u0, u1] T')).frozen? ⟨w.heap.size, 1, none⟩ = false := by simp
theorem new22' (w : World) (v0 v1 u0 u1 : Value) (T T' : TypeId) : ((w.alloc (.cells #[v0, v1] T)).alloc (.cells #[u0, u1] T')).cell? ⟨w.heap.size + 1, 0, none⟩ = some u0 ∧ ((w.alloc (.cells #[v0, v1] T)).alloc (.cells #[u0, u1] T')).cell? ⟨w.heap.size + 1, 1, none⟩ = some u1 ∧ ((w.alloc (.cells #[v0, v1] T)).alloc (.cells #[u0, u1] T')).frozen? ⟨w.heap.size + 1, 0, none⟩ = false ∧ ((w.alloc (.cells #[v0, v1] T)).alloc (.cells #[u0, u1] T')).frozen? ⟨w.heap.size + 1, 1, none⟩ = false := by simp

def Adr (n : Int) : Prop := 0 ≤ n ∧ n ≤ 255
instance (n : Int) : Decidable (Adr n) := by unfold Adr; infer_instance
def ROk (f b : Int) : Prop := 0 ≤ b ∧ b ≤ 8 ∧ 0 ≤ f ∧ f ≤ 255 ∧ f % sz b = 0
instance (f b : Int) : Decidable (ROk f b) := by unfold ROk; infer_instance

theorem isAddr_any (n : Int) (w : World) :
    Calls Tryd.prog 73 #[.int .i64 n] w fun e w' => e = .returned (.bool (decide (Adr n))) ∧ Below w.heap.size w w' := by
  go_enter Tryd.func73, Tryd.ntmps73
  go_wp2
  all_goals (go_ret; refine ⟨ret_bool ?_, Below.refl _ _⟩; rw [Bool.eq_iff_iff]; simp; unfold Adr; omega)
theorem l1Size_new (b : Int) (w : World) (h0 : 0 ≤ b) (h8 : b ≤ 8) :
    Calls Tryd.prog 72 #[.int .i64 b] w fun e w' => e = .returned (.int .i64 (sz b)) ∧ Below w.heap.size w w' :=
  (l1Size_any b w h0 h8).mono fun _ _ h => ⟨h.1, h.2 ▸ Below.refl _ _⟩
theorem many_any (f b : Int) (h0 : 0 ≤ b) (h8 : b ≤ 8) (w : World) :
    Calls Tryd.prog 74 #[.agg #[.int .i64 f, .int .i64 b]] w fun e w' => e = .returned (.int .i64 (sz b)) ∧ Below w.heap.size w w' := by
  have h1 := sz_pos b
  have h2 := sz_le b h0
  unfold sz at *
  go_enter Tryd.func74, Tryd.ntmps74
  go_wp2
  go_ret
  exact ⟨rfl, (Below.refl _ _).alloc (Nat.le_refl _) _⟩
theorem iRangeOk_any (f b : Int) (w : World) :
    Calls Tryd.prog 46 #[.agg #[.int .i64 f, .int .i64 b]] w fun e w' => e = .returned (.bool (decide (ROk f b))) ∧ Below w.heap.size w w' := by
  have hsz := sz_pos b
  go_enter Tryd.func46, Tryd.ntmps46
  go_wp2
  have c0 := fun x : Cl _ (w.alloc _) => x.c2 (new2 w (.int .i64 f) (.int .i64 b) 24)
  first | refine wp_region_new (by kernel_rfl) (by kernel_rfl) ?_ | refine wp_region_lex ?_
  repeat (any_goals (first | go_big_quiet_step ((first | (go_at_call 73; exact Calls.cl (isAddr_any _ _)) | (go_at_call 74; exact Calls.cl (many_any _ _ (by assumption) (by assumption) _)))) | (refine wpQuiet_step (fun K hK => ?_); go_simp; split <;> (rename_i hg; refine hK _ ?_; clear hK K; simp only [hg, decide_true, decide_false]))))
  all_goals (refine wpQuiet_nil ?_; intro x)
  all_goals go_wp2
  all_goals go_ret
  all_goals (refine ⟨ret_bool ?_, ((Below.refl _ _).alloc (Nat.le_refl _) _).trans (x.below.mono (by simp))⟩)
  all_goals (rw [Bool.eq_iff_iff]; simp; unfold ROk)
  all_goals (try unfold Adr at hg)
  all_goals first | omega | (rw [Int.tmod_eq_emod_of_nonneg (by omega)]; omega)

theorem sRangeOk_any (f b : Int) (w : World) :
    Calls Tryd.prog 43 #[.agg #[.int .i64 f, .int .i64 b]] w fun e w' => e = .returned (.bool (decide (ROk f b))) ∧ Below w.heap.size w w' := by
  have hsz := sz_pos b
  go_enter Tryd.func43, Tryd.ntmps43
  go_wp2
  have c0 := fun x : Cl _ (w.alloc _) => x.c2 (new2 w (.int .i64 f) (.int .i64 b) 24)
  first | refine wp_region_new (by kernel_rfl) (by kernel_rfl) ?_ | refine wp_region_lex ?_
  repeat (any_goals (first | go_big_quiet_step ((first | (go_at_call 42; exact Calls.cl (l6In_any _ _ _ _)) | (go_at_call 72; exact Calls.cl (l1Size_new _ _ (by simp only [Bts] at *; omega) (by simp only [Bts] at *; omega))))) | (refine wpQuiet_step (fun K hK => ?_); go_simp; split <;> (rename_i hg; refine hK _ ?_; clear hK K; simp only [hg, decide_true, decide_false]))))
  all_goals (refine wpQuiet_nil ?_; intro x)
  all_goals go_wp2
  all_goals go_ret
  all_goals (refine ⟨ret_bool ?_, ((Below.refl _ _).alloc (Nat.le_refl _) _).trans (x.below.mono (by simp))⟩)
  all_goals (rw [Bool.eq_iff_iff]; simp; unfold ROk)
  all_goals (simp only [Bts] at *)
  all_goals first | omega | (rw [Int.tmod_eq_emod_of_nonneg (by omega)]; omega)
/-- The address x is in the valid range that begins at f with b bits. -/
def Cov (f b x : Int) : Prop := f ≤ x ∧ x < f + sz b
instance (f b x : Int) : Decidable (Cov f b x) := by unfold Cov; infer_instance
def RIn (f b g c : Int) : Prop := ROk f b ∧ ROk g c ∧ c ≤ b ∧ Cov g c f
instance (f b g c : Int) : Decidable (RIn f b g c) := by unfold RIn; infer_instance
def RHas (f b x : Int) : Prop := ROk f b ∧ Adr x ∧ Cov f b x
instance (f b x : Int) : Decidable (RHas f b x) := by unfold RHas; infer_instance

theorem div_cov {f x s : Int} (hs : 1 ≤ s) (hf : f % s = 0) : x / s = f / s ↔ f ≤ x ∧ x < f + s := by
  have h1 := Int.emod_add_mul_ediv f s
  have h2 := Int.emod_add_mul_ediv x s
  have h3 := Int.emod_nonneg x (show s ≠ 0 by omega)
  have h4 := Int.emod_lt_of_pos x (show 0 < s by omega)
  rw [hf] at h1
  constructor
  · intro e; rw [e] at h2; omega
  · rintro ⟨a, b⟩
    generalize f / s = q at *
    have e' : x = (x - f) + s * q := by omega
    rw [e', Int.add_mul_ediv_left _ _ (by omega), Int.ediv_eq_zero_of_lt (by omega) (by omega)]; omega
end Go.Proofs.YtgegmampnpgcaaaDoor
