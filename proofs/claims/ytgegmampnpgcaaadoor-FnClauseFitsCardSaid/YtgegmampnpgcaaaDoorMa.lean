/- Rows of numbers, and rows of rows; what a matrix of relations is. -/
import Derived.Test.YtgegmampnpgcaaaDoorKa
set_option linter.unusedSimpArgs false
set_option linter.unusedVariables false
namespace Go.Proofs.YtgegmampnpgcaaaDoor
open Go.RowKit

def encI (n : Int) : List Value := [.int .i64 n]
def encV (u : Value) : List Value := [u]
abbrev Ints (w : World) (v : Value) (L : List Int) : Prop := Rows w v 1 encI L
theorem Ints.cases {w : World} {v : Value} {L : List Int} (h : Ints w v L) :
    ∃ n cap, Hid (L.length = n) ∧ n ≤ cap ∧ cap ≤ 9223372036854775807 ∧ ((n ≤ 0 ∧ ∃ ao, v = .slice ao n cap) ∨ (0 < n ∧ ∃ b off, v = .slice (some ⟨b, off, none⟩) n cap ∧ Hid (∀ k x, L[k]? = some x → w.cell? ⟨b, off + k, none⟩ = some (.int .i64 x)))) := by
  obtain ⟨n, cap, hn, h1, h2, h3⟩ := Rows.cases h
  refine ⟨n, cap, hn, h1, h2, ?_⟩
  rcases h3 with h3 | ⟨hp, b, off, rfl, hc⟩
  · exact Or.inl h3
  · refine Or.inr ⟨hp, b, off, rfl, fun k x hk => ?_⟩
    have := hc.out k x hk 0 _ rfl
    simpa using this
/-- The number at a place. -/
theorem Ints.get {w : World} {b off n cap : Nat} {L : List Int} (h : Ints w (.slice (some ⟨b, off, none⟩) n cap) L) {k : Nat} {x : Int} (hk : L[k]? = some x) : w.cell? ⟨b, off + k, none⟩ = some (.int .i64 x) := by
  have := Rows.get h hk (j := 0) rfl
  simpa using this
theorem Ints.getD {w : World} {b off n cap : Nat} {L : List Int} (h : Ints w (.slice (some ⟨b, off, none⟩) n cap) L) {k : Nat} (hk : k < L.length) : w.cell? ⟨b, off + k, none⟩ = some (.int .i64 (L.getD k 0)) :=
  h.get (by rw [List.getElem?_eq_getElem hk]; simp [List.getD, hk])

/-- A slice of slices of numbers that reads as the matrix M. -/
structure Mat (w : World) (v : Value) (M : List (List Int)) : Prop where
  ex : ∃ vs : List Value, Rows w v 1 encV vs ∧ vs.length = M.length ∧ ∀ (i : Nat) (r : List Int), M[i]? = some r → ∃ u : Value, vs[i]? = some u ∧ Ints w u r
theorem Mat.below {w w' : World} {v : Value} {M : List (List Int)} (h : Mat w v M) (hb : Below w.heap.size w w') : Mat w' v M := by
  obtain ⟨vs, h1, h2, h3⟩ := h.ex
  refine ⟨vs, h1.below hb, h2, fun i r hi => ?_⟩
  obtain ⟨u, hu, hr⟩ := h3 i r hi
  exact ⟨u, hu, hr.below hb⟩
theorem Mat.alloc {w : World} {v : Value} {M : List (List Int)} (h : Mat w v M) (o : Obj) : Mat (w.alloc o) v M := h.below ((Below.refl _ _).alloc (Nat.le_refl _) _)
theorem Mat.cases {w : World} {v : Value} {M : List (List Int)} (h : Mat w v M) :
    ∃ n cap, Hid (M.length = n) ∧ n ≤ cap ∧ cap ≤ 9223372036854775807 ∧ ((n ≤ 0 ∧ ∃ ao, v = .slice ao n cap) ∨ (0 < n ∧ ∃ b off, v = .slice (some ⟨b, off, none⟩) n cap)) := by
  obtain ⟨vs, h1, h2, h3⟩ := h.ex
  obtain ⟨n, cap, hn, k1, k2, k3⟩ := Rows.cases h1
  refine ⟨n, cap, h2.symm.trans hn.out, k1, k2, ?_⟩
  rcases k3 with k3 | ⟨hp, b, off, rfl, hc⟩
  · exact Or.inl k3
  · exact Or.inr ⟨hp, b, off, rfl⟩
/-- A row of it: its slice's address, and what stands in it. -/
theorem Mat.at {w : World} {b off n cap : Nat} {M : List (List Int)} (h : Mat w (.slice (some ⟨b, off, none⟩) n cap) M) {k : Nat} (hk : k < M.length) :
    ∃ a m c, w.cell? ⟨b, off + k, none⟩ = some (.slice a m c) ∧ Hid ((M.getD k []).length = m) ∧ Ints w (.slice a m c) (M.getD k []) ∧ m ≤ c ∧ c ≤ 9223372036854775807 := by
  obtain ⟨vs, h1, h2, h3⟩ := h.ex
  obtain ⟨u, hu, hr⟩ := h3 k M[k] (List.getElem?_eq_getElem hk)
  have hc := Rows.get h1 hu (j := 0) (u := u) rfl
  obtain ⟨ao, c, rfl, g1, g2, _⟩ := hr.ex
  have e : M.getD k [] = M[k] := by simp [List.getD, hk]
  refine ⟨ao, M[k].length, c, ?_, ?_, ?_, g1, g2⟩
  · simpa using hc
  · show _ = _; rw [e]
  · rw [e]; exact hr
theorem Ints.some {w : World} {a : Option Addr} {m c : Nat} {L : List Int} (h : Ints w (.slice a m c) L) (hm : 0 < m) : ∃ b off, a = some ⟨b, off, none⟩ := by
  obtain ⟨n, cap, hn, _, _, ⟨h0, ao, e⟩ | ⟨_, b, off, e, _⟩⟩ := Ints.cases h
  · injection e with e1 e2 e3; omega
  · injection e with e1 e2 e3; exact ⟨b, off, e1⟩

def mget (M : List (List Int)) (i k : Nat) : Int := (M.getD i []).getD k 0
/-- What the other is to one, if one is so much to it. -/
def bk (r : Int) : Int := if r = 1 then 3 else if r = 3 then 1 else r
def OkAt (M : List (List Int)) (i k : Nat) : Prop := (M.getD k []).length = M.length ∧ Bts (mget M i k) 0 3 ∧ mget M k i = bk (mget M i k) ∧ (i = k → mget M i k = 0)
instance (M : List (List Int)) (i k : Nat) : Decidable (OkAt M i k) := by unfold OkAt; infer_instance
def RowOk (M : List (List Int)) (i : Nat) : Prop := (M.getD i []).length = M.length ∧ ∀ k, k < M.length → OkAt M i k
instance (M : List (List Int)) (i : Nat) : Decidable (RowOk M i) := by unfold RowOk; infer_instance
def RelsP (M : List (List Int)) : Prop := (∀ i, i < M.length → RowOk M i) ∧ 1 ≤ M.length ∧ M.length ≤ 5
instance (M : List (List Int)) : Decidable (RelsP M) := by unfold RelsP; infer_instance
theorem bk_bk {r : Int} (h : Bts r 0 3) : bk (bk r) = r ∧ Bts (bk r) 0 3 := by
  unfold Bts at *; unfold bk; repeat' split
  all_goals omega
theorem relsP_no {M : List (List Int)} {n i k : Nat} (hn : M.length = n) (hi : i < n) (hk : k < n) (h : ¬ OkAt M i k) : decide (RelsP M) = false := by
  simp only [decide_eq_false_iff_not]
  exact fun hp => h ((hp.1 i (by omega)).2 k (by omega))
theorem relsP_row {M : List (List Int)} {n i : Nat} (hn : M.length = n) (hi : i < n) (h : (M.getD i []).length ≠ n) : decide (RelsP M) = false := by
  simp only [decide_eq_false_iff_not]
  exact fun hp => h (by rw [(hp.1 i (by omega)).1, hn])
theorem relsP_all {M : List (List Int)} {n : Nat} (hn : M.length = n) (h : ∀ i, i < n → RowOk M i) : decide (RelsP M) = decide (Bts (n : Int) 1 5) := by
  refine decide_eq_decide.2 ?_
  unfold RelsP Bts
  constructor
  · rintro ⟨_, h1, h2⟩; omega
  · rintro ⟨h1, h2⟩; exact ⟨fun i hi => h i (by omega), by omega, by omega⟩
end Go.Proofs.YtgegmampnpgcaaaDoor
