/- Rows of equal cells that can be read; searches through lists. -/
import Derived.Test.YtgegmampnpgcaaaDoorB2
set_option linter.unusedSimpArgs false
set_option linter.unusedVariables false
namespace Go.Proofs.YtgegmampnpgcaaaDoor
open Go.RowKit

/-- The slice value v reads as the list L: each element lies in sz cells, which hold enc x. -/
structure Rows {α : Type} (w : World) (v : Value) (sz : Nat) (enc : α → List Value) (L : List α) : Prop where
  ex : ∃ ao cap, v = .slice ao L.length cap ∧ L.length ≤ cap ∧ cap ≤ 9223372036854775807 ∧ ∀ k x, L[k]? = some x → ∃ b off, ao = some ⟨b, off, none⟩ ∧ ∀ j u, (enc x)[j]? = some u → w.cell? ⟨b, off + k * sz + j, none⟩ = some u

theorem Rows.below {α : Type} {w w' : World} {v : Value} {sz : Nat} {enc : α → List Value} {L : List α} (h : Rows w v sz enc L) (hb : Below w.heap.size w w') : Rows w' v sz enc L := by
  obtain ⟨ao, cap, e, h1, h2, h3⟩ := h.ex
  refine ⟨ao, cap, e, h1, h2, fun k x hk => ?_⟩
  obtain ⟨b, off, e1, hc⟩ := h3 k x hk
  exact ⟨b, off, e1, fun j u hj => (hb.cell (World.block_lt_of_cell? w _ (hc j u hj))).trans (hc j u hj)⟩
theorem Rows.nil {α : Type} (w : World) (ao : Option Addr) (cap : Nat) (hc : cap ≤ 9223372036854775807) (sz : Nat) (enc : α → List Value) : Rows w (.slice ao 0 cap) sz enc [] :=
  ⟨ao, cap, rfl, Nat.zero_le _, hc, fun k x h => by simp at h⟩
/-- Either no element, or an address. -/
theorem Rows.cases {α : Type} {w : World} {v : Value} {sz : Nat} {enc : α → List Value} {L : List α} (h : Rows w v sz enc L) :
    ∃ n cap, Hid (L.length = n) ∧ n ≤ cap ∧ cap ≤ 9223372036854775807 ∧ ((n ≤ 0 ∧ ∃ ao, v = .slice ao n cap) ∨ (0 < n ∧ ∃ b off, v = .slice (some ⟨b, off, none⟩) n cap ∧ Hid (∀ k x, L[k]? = some x → ∀ j u, (enc x)[j]? = some u → w.cell? ⟨b, off + k * sz + j, none⟩ = some u))) := by
  obtain ⟨ao, cap, rfl, h1, h2, h3⟩ := h.ex
  refine ⟨L.length, cap, rfl, h1, h2, ?_⟩
  cases L with
  | nil => exact Or.inl ⟨Nat.le_refl _, ao, rfl⟩
  | cons y L =>
    obtain ⟨b, off, rfl, _⟩ := h3 0 y rfl
    refine Or.inr ⟨by simp, b, off, rfl, fun k x hk j u hj => ?_⟩
    obtain ⟨b', off', e, hc⟩ := h3 k x hk
    injection e with e; injection e with e1 e2; subst e1; subst e2
    exact hc j u hj
theorem Rows.len {α : Type} {w : World} {v : Value} {sz : Nat} {enc : α → List Value} {L : List α} (h : Rows w v sz enc L) : L.length ≤ 9223372036854775807 := by
  obtain ⟨ao, cap, rfl, h1, h2, h3⟩ := h.ex; omega
theorem Cl.old {w wr : World} {L : List (Nat × List Value)} (hF : Fb w wr L) (x : Cl wr.heap.size wr) {a : Addr} {v : Value} (h : w.cell? a = some v) : x.W.cell? a = some v :=
  ((hF.cl x).kp.cell (World.block_lt_of_cell? w a h)).trans h
theorem Fb.old {w wr : World} {L : List (Nat × List Value)} (hF : Fb w wr L) {a : Addr} {v : Value} (h : w.cell? a = some v) : wr.cell? a = some v :=
  (hF.kp.cell (World.block_lt_of_cell? w a h)).trans h
theorem Fr.old {r : Nat} {w wr : World} {L : List (Nat × List Value)} (hF : Fr r w wr L) {a : Addr} {v : Value} (h : w.cell? a = some v) (hr : a.block ≠ r) : wr.cell? a = some v :=
  hF.kp.cell h hr

theorem any_hit {α : Type} {p : α → Bool} {L : List α} {k : Nat} {x : α} (h : L[k]? = some x) (hp : p x = true) : L.any p = true :=
  List.any_eq_true.2 ⟨x, List.mem_of_getElem? h, hp⟩
theorem take_succ' {α : Type} {L : List α} {k : Nat} {x : α} (h : L[k]? = some x) : L.take (k + 1) = L.take k ++ [x] := by
  rw [List.take_add_one, h]; rfl
theorem any_step {α : Type} {p : α → Bool} {L : List α} {k : Nat} {x : α} (h0 : (L.take k).any p = false) (h : L[k]? = some x) (hp : p x = false) : (L.take (k + 1)).any p = false := by
  rw [take_succ' h, List.any_append, h0]; simp [hp]
theorem any_end {α : Type} {p : α → Bool} {L : List α} {k : Nat} (h0 : (L.take k).any p = false) (h : L.length ≤ k) : L.any p = false := by
  rwa [List.take_of_length_le h] at h0
theorem all_miss {α : Type} {p : α → Bool} {L : List α} {k : Nat} {x : α} (h : L[k]? = some x) (hp : p x = false) : L.all p = false := by
  rw [List.all_eq_false]; exact ⟨x, List.mem_of_getElem? h, by simp [hp]⟩
theorem all_step {α : Type} {p : α → Bool} {L : List α} {k : Nat} {x : α} (h0 : (L.take k).all p = true) (h : L[k]? = some x) (hp : p x = true) : (L.take (k + 1)).all p = true := by
  rw [take_succ' h, List.all_append, h0]; simp [hp]
theorem all_end {α : Type} {p : α → Bool} {L : List α} {k : Nat} (h0 : (L.take k).all p = true) (h : L.length ≤ k) : L.all p = true := by
  rwa [List.take_of_length_le h] at h0
theorem get_lt {α : Type} {L : List α} {k : Nat} (h : k < L.length) : ∃ x, L[k]? = some x := ⟨L[k], List.getElem?_eq_getElem h⟩
theorem get_of {α : Type} {L : List α} {k n : Nat} (hn : L.length = n) (h : k < n) : ∃ x, L[k]? = some x := get_lt (hn ▸ h)
end Go.Proofs.YtgegmampnpgcaaaDoor
