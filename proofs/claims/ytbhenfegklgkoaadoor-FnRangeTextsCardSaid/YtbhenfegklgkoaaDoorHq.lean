/- Halves of ranges, plain. -/
import Derived.Test.YtbhenfegklgkoaaDoorR1
set_option linter.unusedSimpArgs false
set_option linter.unusedVariables false
namespace Go.Proofs.YtbhenfegklgkoaaDoor
open Go.RowKit

/-- A half of a range: its first address, its bits; whether there is one. -/
def Hlf (f b : Int) : Prop := ROk f b ∧ b ≠ 8
instance (f b : Int) : Decidable (Hlf f b) := by unfold Hlf; infer_instance
def hF (f b : Int) (up : Bool) : Int := if Hlf f b then f + (if up then sz (b + 1) else 0) else 0
def hB (f b : Int) : Int := if Hlf f b then b + 1 else 0
def hlfV (f b : Int) (up : Bool) : Value := .tuple #[.agg #[.int .i64 (hF f b up), .int .i64 (hB f b)], .bool (decide (Hlf f b))]

theorem sz_dvd {c d : Int} (h : d ≤ c) : ∃ m : Int, sz d = sz c * m := by
  refine ⟨2 ^ ((8 - d).toNat - (8 - c).toNat), ?_⟩
  unfold sz
  rw [← Int.pow_add]
  congr 1
  omega
/-- Two multiples of s apart are at least s apart. -/
theorem mul_gap {s x y : Int} (hs : 1 ≤ s) (hx : x % s = 0) (hy : y % s = 0) (h : x < y) : x + s ≤ y := by
  obtain ⟨p, hp⟩ := Int.dvd_of_emod_eq_zero hx
  obtain ⟨q, hq⟩ := Int.dvd_of_emod_eq_zero hy
  rw [hp, hq] at h ⊢
  have h1 : p < q := by
    rcases Int.lt_or_le p q with h' | h'
    · exact h'
    · have := Int.mul_le_mul_of_nonneg_left h' (show 0 ≤ s by omega); omega
  have h2 := Int.mul_le_mul_of_nonneg_left (show p + 1 ≤ q by omega) (show 0 ≤ s by omega)
  rw [Int.mul_add, Int.mul_one] at h2
  exact h2
theorem sz_half {b : Int} (h0 : 0 ≤ b) (h8 : b < 8) : sz b = 2 * sz (b + 1) := by
  obtain ⟨k, rfl⟩ := Int.eq_ofNat_of_zero_le h0
  unfold sz
  have e : (8 - (k : Int)).toNat = (8 - ((k : Int) + 1)).toNat + 1 := by omega
  rw [e, Int.pow_succ]; omega
theorem half_ok {f b : Int} (up : Bool) (h : Hlf f b) : ROk (hF f b up) (hB f b) := by
  obtain ⟨⟨h0, h8, hf, hf', hm⟩, h9⟩ := h
  have hs := sz_half h0 (by omega)
  have hp := sz_pos (b + 1)
  have hH : Hlf f b := ⟨⟨h0, h8, hf, hf', hm⟩, h9⟩
  simp only [hF, hB, if_pos hH]
  obtain ⟨q, hq⟩ := Int.dvd_of_emod_eq_zero hm
  have hq' : f = sz (b + 1) * (2 * q) := by rw [hq, hs]; rw [Int.mul_comm 2, Int.mul_assoc]
  have h256 : f + sz b ≤ 256 := by
    have hd : (256 : Int) % sz b = 0 := by
      obtain ⟨m, hm'⟩ := sz_dvd (show (0:Int) ≤ b from h0)
      have : sz 0 = 256 := by decide
      rw [this] at hm'; rw [hm']; exact Int.mul_emod_right _ _
    exact mul_gap (sz_pos b) hm hd (by omega)
  refine ⟨by omega, by omega, ?_, ?_, ?_⟩
  · split <;> omega
  · split <;> omega
  · split
    · rw [hq', show sz (b + 1) * (2 * q) + sz (b + 1) = sz (b + 1) * (2 * q + 1) by rw [Int.mul_add, Int.mul_one]]; exact Int.mul_emod_right _ _
    · rw [hq', Int.add_zero]; exact Int.mul_emod_right _ _
theorem hF_of {f b : Int} (h : Hlf f b) : hF f b true = f + sz (b + 1) ∧ hF f b false = f ∧ hB f b = b + 1 := by
  simp [hF, hB, h]
theorem half_split {f b : Int} (up : Bool) (h : Hlf f b) (x : Int) :
    (RHas f b x ↔ RHas (hF f b up) (hB f b) x ∨ RHas (hF f b (!up)) (hB f b) x) ∧ ¬ (RHas (hF f b up) (hB f b) x ∧ RHas (hF f b (!up)) (hB f b) x) := by
  have k1 := half_ok up h
  have k2 := half_ok (!up) h
  have hs := sz_half h.1.1 (by have := h.1.2.1; have := h.2; omega)
  have hp := sz_pos (b + 1)
  obtain ⟨e1, e2, e3⟩ := hF_of h
  unfold RHas
  simp only [k1, k2, h.1, true_and]
  by_cases hA : Adr x
  · simp only [hA, true_and]
    cases up <;> simp only [Bool.not_true, Bool.not_false, e1, e2, e3, Cov] <;> omega
  · simp [hA]
end Go.Proofs.YtbhenfegklgkoaaDoor
