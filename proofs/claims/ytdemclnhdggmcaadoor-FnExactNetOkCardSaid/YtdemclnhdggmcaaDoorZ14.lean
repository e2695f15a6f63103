/- Arguments that are slices of slices of numbers, as they are opened. -/
import Derived.Test.YtdemclnhdggmcaaDoorZ13
import Derived.Deep.Slices
set_option linter.unusedSimpArgs false
set_option linter.unusedVariables false
namespace Go.Proofs.YtdemclnhdggmcaaDoor
open Go.RowKit Go.ChangeShapes

theorem add_none {w : World} {a : Addr} {u : Value} (h : w.cell? (a.add 0) = some u) : ∃ b off, a = ⟨b, off, none⟩ ∧ ∀ k, a.add k = ⟨b, off + k, none⟩ := by
  have hs := World.cell?_spot h
  obtain ⟨b, off, s⟩ := a
  simp [Addr.add] at hs
  subst hs
  refine ⟨b, off, rfl, fun k => ?_⟩
  unfold Addr.add
  by_cases hk : k = 0
  · subst hk; simp
  · simp [hk]
theorem trod_ints {H : Type} {enc : TypeId × Value → H} {w : World} {base : Nat} {sp : Nat → Bool} {held : Bool} {fuel : Nat} {v : Value} {x : DataW H × List MemPlace} (h : DataW.trod enc Tryd.prog w base sp held fuel 28 [v] = some x) :
    ∃ L, Ints w v L := by
  rcases open_ints Tryd.underlying28 Tryd.underlying3 (by kernel_rfl) h with ⟨hcs, _⟩ | ⟨a, l, c, zs, hcs, _, hl, hm, hz, _, hcell, hwz⟩
  · injection hcs with e _
    subst e
    exact ⟨[], Rows.nil _ _ _ (by omega) _ _⟩
  · injection hcs with e _
    subst e
    have hle : l ≤ zs.length := by rw [hz]; split <;> omega
    have hlen : (zs.take l).length = l := by rw [List.length_take]; omega
    refine ⟨zs.take l, some a, c, by rw [hlen], by rw [hlen]; exact hl, by unfold maxLen at hm; omega, fun k y hk => ?_⟩
    have hk1 : k < l := by have := (List.getElem?_eq_some_iff.1 hk).1; omega
    have hc := hcell k (by omega)
    have hy : zs.getD k 0 = y := by
      rw [List.getElem?_take, if_pos hk1] at hk
      simp [List.getD, hk]
    rw [hy] at hc
    obtain ⟨b, off, rfl, e2⟩ := add_none (hcell 0 (by omega))
    rw [e2] at hc
    refine ⟨b, off, rfl, fun j u hj => ?_⟩
    have hj0 : j = 0 := by
      have := (List.getElem?_eq_some_iff.1 hj).1
      simp [encI] at this; omega
    subst hj0
    simp [encI] at hj
    subst hj
    simpa using hc
theorem trod_gls {H : Type} {enc : TypeId × Value → H} {w : World} {base : Nat} {sp : Nat → Bool} {held : Bool} {fuel : Nat} {v : Value} {x : DataW H × List MemPlace} (h : DataW.trod enc Tryd.prog w base sp held fuel 22 [v] = some x) :
    ∃ M, GLs shI w v M := by
  rcases Deep.open_slice1 Tryd.underlying22 (by kernel_rfl) h with ⟨hcs, _⟩ | ⟨a, l, c, m, n, V, D, Pl, hcs, _, hl, hm, hmm, _, hcell⟩
  · injection hcs with e _
    subst e
    exact ⟨[], GLs.nil _ _ _ (by omega)⟩
  · injection hcs with e _
    subst e
    have hle : l ≤ m := by rw [hmm]; split <;> omega
    obtain ⟨L, hL⟩ := Deep.choose_lt (α := List Int) (n := l) (p := fun i P => Ints w (V i) P) (fun i hi => trod_ints (hcell i (by omega)).2)
    refine ⟨(List.range l).map L, (List.range l).map V, ⟨some a, c, by simp, by simpa using hl, by unfold maxLen at hm; omega, fun k y hk => ?_⟩, by simp, fun k s hk => ?_⟩
    · have hk1 : k < l := by simpa using (List.getElem?_eq_some_iff.1 hk).1
      have hc := (hcell k (by omega)).1
      have hy : V k = y := by simpa [hk1] using hk
      rw [hy] at hc
      obtain ⟨b, off, rfl, e2⟩ := add_none (hcell 0 (by omega)).1
      rw [e2] at hc
      refine ⟨b, off, rfl, fun j u hj => ?_⟩
      have hj0 : j = 0 := by
        have := (List.getElem?_eq_some_iff.1 hj).1
        simp [shI, encV] at this; omega
      subst hj0
      simp [shI, encV] at hj
      subst hj
      have : (Sh.sz shI) = 1 := rfl
      rw [this]
      simpa using hc
    · have hk1 : k < l := by simpa using (List.getElem?_eq_some_iff.1 hk).1
      have hs : L k = s := by simpa [hk1] using hk
      exact ⟨V k, by simp [hk1], by rw [← hs]; exact hL k hk1⟩
end Go.Proofs.YtdemclnhdggmcaaDoor
