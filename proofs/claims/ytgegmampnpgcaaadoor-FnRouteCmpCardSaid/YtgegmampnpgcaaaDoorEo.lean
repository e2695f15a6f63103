/- The orders of numbers, rows, paths: plain laws. -/
import Derived.Test.YtgegmampnpgcaaaDoorEi
set_option linter.unusedSimpArgs false
set_option linter.unusedVariables false
namespace Go.Proofs.YtgegmampnpgcaaaDoor
open Go.RowKit

theorem icmp_neg1 {a b : Int} : icmp a b = -1 ↔ a < b := by unfold icmp; split <;> (try split) <;> omega
theorem icmp_0 {a b : Int} : icmp a b = 0 ↔ a = b := by unfold icmp; split <;> (try split) <;> omega
theorem icmp_1 {a b : Int} : icmp a b = 1 ↔ b < a := by unfold icmp; split <;> (try split) <;> omega
theorem icmp_neg (a b : Int) : icmp b a = - icmp a b := by unfold icmp; (repeat' split) <;> omega
theorem lex_neg : ∀ (L K : List Int), lex K L = - lex L K
  | [], [] => rfl
  | [], _ :: _ => rfl
  | _ :: _, [] => rfl
  | x :: L, y :: K => by
    simp only [lex]
    have h := icmp_neg x y
    by_cases e : icmp x y = 0
    · rw [if_pos e, if_pos (by omega), lex_neg L K]
    · rw [if_neg e, if_neg (by omega), h]
theorem lex_0 : ∀ {L K : List Int}, lex L K = 0 ↔ L = K
  | [], [] => by simp [lex]
  | [], _ :: _ => by simp [lex]
  | _ :: _, [] => by simp [lex]
  | x :: L, y :: K => by
    simp only [lex]
    by_cases e : icmp x y = 0
    · rw [if_pos e, lex_0 (L := L) (K := K)]
      have := icmp_0.1 e
      simp [this]
    · rw [if_neg e]
      have : x ≠ y := fun g => e (icmp_0.2 g)
      simp [e, this]
theorem lex_trans : ∀ {A B C : List Int}, lex A B = -1 → lex B C = -1 → lex A C = -1
  | [], [], _, h, _ => by simp [lex] at h
  | _ :: _, [], _, h, _ => by simp [lex] at h
  | _, _ :: _, [], _, h => by simp [lex] at h
  | [], _ :: _, _ :: _, _, _ => rfl
  | x :: A, y :: B, z :: C, h1, h2 => by
    simp only [lex] at h1 h2 ⊢
    by_cases e1 : icmp x y = 0
    · rw [if_pos e1] at h1
      obtain rfl := icmp_0.1 e1
      by_cases e2 : icmp x z = 0
      · rw [if_pos e2] at h2 ⊢; exact lex_trans h1 h2
      · rw [if_neg e2] at h2 ⊢; exact h2
    · rw [if_neg e1] at h1
      have l1 := icmp_neg1.1 h1
      by_cases e2 : icmp y z = 0
      · obtain rfl := icmp_0.1 e2
        rw [if_neg (by omega)]; exact h1
      · rw [if_neg e2] at h2
        have l2 := icmp_neg1.1 h2
        have l3 : icmp x z = -1 := icmp_neg1.2 (by omega)
        rw [if_neg (by omega)]; exact l3
theorem pcmp_lt {L K : List Int} : pcmp L K = -1 ↔ L.length < K.length ∨ L.length = K.length ∧ lex L K = -1 := by
  unfold pcmp orz
  by_cases e : icmp (L.length : Int) (K.length : Int) = 0
  · rw [if_pos e]; have := icmp_0.1 e; omega
  · rw [if_neg e, icmp_neg1]
    have : ¬ ((L.length : Int) = K.length) := fun g => e (icmp_0.2 g)
    omega
theorem pcmp_0 {L K : List Int} : pcmp L K = 0 ↔ L = K := by
  unfold pcmp orz
  by_cases e : icmp (L.length : Int) (K.length : Int) = 0
  · rw [if_pos e]; exact lex_0
  · rw [if_neg e]
    exact ⟨fun g => absurd g e, fun g => absurd (by subst g; exact icmp_0.2 rfl) e⟩
theorem pcmp_neg (L K : List Int) : pcmp K L = - pcmp L K := by
  unfold pcmp orz
  have h := icmp_neg (L.length : Int) (K.length : Int)
  by_cases e : icmp (L.length : Int) (K.length : Int) = 0
  · rw [if_pos e, if_pos (by omega), lex_neg]
  · rw [if_neg e, if_neg (by omega), h]
theorem pcmp_trans {A B C : List Int} (h1 : pcmp A B = -1) (h2 : pcmp B C = -1) : pcmp A C = -1 := by
  rw [pcmp_lt] at *
  rcases h1 with h1 | ⟨h1, g1⟩ <;> rcases h2 with h2 | ⟨h2, g2⟩
  · exact Or.inl (by omega)
  · exact Or.inl (by omega)
  · exact Or.inl (by omega)
  · exact Or.inr ⟨by omega, lex_trans g1 g2⟩
theorem PC_ok {L K : List Int} (h1 : POk L) (h2 : POk K) : PC L K = pcmp L K := if_pos ⟨h1, h2⟩
end Go.Proofs.YtgegmampnpgcaaaDoor
