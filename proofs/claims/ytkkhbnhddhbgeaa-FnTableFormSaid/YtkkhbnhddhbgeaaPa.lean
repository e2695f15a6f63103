/- Tables: what a table turned about, or cut, or doubled is: plain laws. -/
import Derived.Test.YtkkhbnhddhbgeaaTa
set_option linter.unusedSimpArgs false
set_option linter.unusedVariables false
namespace Go.Proofs.Ytkkhbnhddhbgeaa
open Go.RowKit

theorem ecmp_self (x : Ent) : ecmp x x = 0 := by unfold ecmp rcmp icmp; simp
theorem ecmp_neg (x y : Ent) : ecmp y x = - ecmp x y := by unfold ecmp rcmp icmp; (repeat' split) <;> omega
theorem tok_step {T : List Ent} (h : TOk T) {k : Nat} {y x : Ent} (hy : T[k]? = some y) (hx : T[k + 1]? = some x) : ecmp y x < 0 :=
  ((stepOk_s (Nat.le_refl _) (Nat.le_refl _) hy hx).1 (h.1 (k + 1) (by obtain ⟨g, _⟩ := List.getElem?_eq_some_iff.1 hx; exact g))).2
theorem not_tok {T : List Ent} {k : Nat} {y x : Ent} (hy : T[k]? = some y) (hx : T[k + 1]? = some x) (h : 0 ≤ ecmp y x) : ¬ TOk T := fun g => by
  have := tok_step g hy hx; omega
theorem tok_take {T : List Ent} (h : TOk T) (k : Nat) : TOk (T.take k) := by
  refine ⟨fun i hi => ?_, by have := h.2; rw [List.length_take]; omega⟩
  rw [List.length_take] at hi
  have h1 := h.1 i (by omega)
  unfold StepOk at h1 ⊢
  have e : ∀ j, j ≤ i → (T.take k).getD j zE = T.getD j zE := fun j hj => by simp only [List.getD, List.getElem?_take]; rw [if_pos (by omega)]
  rw [e i (Nat.le_refl _), e (i - 1) (by omega)]; exact h1
theorem tok_nil : TOk [] := ⟨fun i hi => by simp at hi, by simp⟩
theorem tok_swap {T : List Ent} (h : TOk T) {k : Nat} {y x : Ent} (hy : T[k]? = some y) (hx : T[k + 1]? = some x) : ¬ TOk ((T.set k x).set (k + 1) y) := by
  have hs := tok_step h hy hx
  obtain ⟨g, _⟩ := List.getElem?_eq_some_iff.1 hx
  refine not_tok (k := k) (y := x) (x := y) ?_ ?_ (by rw [ecmp_neg]; omega)
  · rw [List.getElem?_set_ne (by omega), List.getElem?_set_self (by omega)]
  · rw [List.getElem?_set_self (by simp; omega)]
theorem tok_twice {T : List Ent} {k : Nat} {y : Ent} (hy : T[k]? = some y) : ¬ TOk (T.take (k + 1) ++ T.drop k) := by
  obtain ⟨g, _⟩ := List.getElem?_eq_some_iff.1 hy
  have hl : (T.take (k + 1)).length = k + 1 := by rw [List.length_take]; omega
  refine not_tok (k := k) (y := y) (x := y) ?_ ?_ (by rw [ecmp_self]; omega)
  · rw [List.getElem?_append_left (by omega), List.getElem?_take, if_pos (by omega)]; exact hy
  · rw [List.getElem?_append_right (by omega), hl, show k + 1 - (k + 1) = 0 by omega, List.getElem?_drop]; simpa using hy
end Go.Proofs.Ytkkhbnhddhbgeaa
