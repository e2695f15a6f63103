/- Routes compared both ways; are two routes the same: plain laws. -/
import Derived.Test.YtgegmampnpgcaaaDoorVh
set_option linter.unusedSimpArgs false
set_option linter.unusedVariables false
namespace Go.Proofs.YtgegmampnpgcaaaDoor
open Go.RowKit

theorem orz_neg (a b : Int) : orz (-a) (-b) = - orz a b := by unfold orz; split <;> split <;> omega
theorem orz_0 {a b : Int} : orz a b = 0 ↔ a = 0 ∧ b = 0 := by unfold orz; split <;> omega
theorem orz_n {a b : Int} (h : a ≠ 0) : orz a b = a := if_neg h
theorem orz_z {b : Int} : orz 0 b = b := if_pos rfl
theorem rcmp_neg (f b g c : Int) : rcmp g c f b = - rcmp f b g c := by unfold rcmp icmp; (repeat' split) <;> omega
theorem rts_neg (f b lk : Int) (P M : List Int) (g c lk2 : Int) (P2 M2 : List Int) : rts g c lk2 P2 M2 f b lk P M = - rts f b lk P M g c lk2 P2 M2 := by
  unfold rts; rw [icmp_neg lk2 lk, pcmp_neg P P2, rcmp_neg f b g c, pcmp_neg M M2, orz_neg, orz_neg, orz_neg]
/-- Two routes are the same. -/
def SameR (f b lk : Int) (P M : List Int) (g c lk2 : Int) (P2 M2 : List Int) : Prop := (f = g ∧ b = c) ∧ P = P2 ∧ lk = lk2 ∧ M = M2
instance (f b lk : Int) (P M : List Int) (g c lk2 : Int) (P2 M2 : List Int) : Decidable (SameR f b lk P M g c lk2 P2 M2) := by unfold SameR; infer_instance
theorem rts_same (f b lk : Int) (P M : List Int) (g c lk2 : Int) (P2 M2 : List Int) : rts f b lk P M g c lk2 P2 M2 = 0 ↔ SameR f b lk P M g c lk2 P2 M2 := by
  unfold rts SameR
  rw [orz_0, orz_0, orz_0, icmp_0, pcmp_0, rcmp_z, pcmp_0]
  constructor
  · rintro ⟨h1, h2, h3, h4⟩; exact ⟨h3, h2, h1.symm, h4⟩
  · rintro ⟨h3, h2, h1, h4⟩; exact ⟨h1.symm, h2, h3, h4⟩
theorem orz_bd {a b : Int} (ha : -1 ≤ a ∧ a ≤ 1) (hb : -1 ≤ b ∧ b ≤ 1) : -1 ≤ orz a b ∧ orz a b ≤ 1 := by unfold orz; split <;> omega
theorem pcmp_bd' (L K : List Int) : -1 ≤ pcmp L K ∧ pcmp L K ≤ 1 := orz_bd (icmp_bd _ _) (lex_bd L K)
theorem rcmp_bd (f b g c : Int) : -1 ≤ rcmp f b g c ∧ rcmp f b g c ≤ 1 := by have := icmp_bd f g; have := icmp_bd b c; unfold rcmp; split <;> omega
theorem rts_bd (f b lk : Int) (P M : List Int) (g c lk2 : Int) (P2 M2 : List Int) : -1 ≤ rts f b lk P M g c lk2 P2 M2 ∧ rts f b lk P M g c lk2 P2 M2 ≤ 1 :=
  orz_bd (icmp_bd _ _) (orz_bd (pcmp_bd' _ _) (orz_bd (rcmp_bd _ _ _ _) (pcmp_bd' _ _)))
theorem rts_like {f b lk : Int} {P M : List Int} {g c lk2 : Int} {P2 M2 : List Int} (h : lk2 < lk) : rts f b lk P M g c lk2 P2 M2 = -1 := by
  unfold rts; rw [show icmp lk2 lk = -1 by unfold icmp; rw [if_pos h]]; rfl
theorem rts_path {f b lk : Int} {P M : List Int} {g c : Int} {P2 M2 : List Int} (h : pcmp P P2 ≠ 0) : rts f b lk P M g c lk P2 M2 = pcmp P P2 := by
  unfold rts; rw [show icmp lk lk = 0 by simp [icmp], orz_z, orz_n h]
end Go.Proofs.YtgegmampnpgcaaaDoor
