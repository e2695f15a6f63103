/- What a house told: one of them written anew. -/
import Derived.Test.YtonojegnbcgnaaaDoorZ18
set_option linter.unusedSimpArgs false
set_option linter.unusedVariables false
namespace Go.Proofs.YtonojegnbcgnaaaDoor
open Go.RowKit

theorem own_step6 {E : TypeId} {w : World} {B g n cap : Nat} {ds : List GtD} (h : Own E w B (.slice (some ⟨g, 0, none⟩) n cap) 6 encGt ds) {i : Nat} {d : GtD} (hi : ds[i]? = some d) (j : Nat) (hj : j < 6) (d' : GtD) (u : Value) (he : encGt d' = (encGt d).set j u) : Own E (w.setCell ⟨g, i * 6 + j, none⟩ u) B (.slice (some ⟨g, 0, none⟩) n cap) 6 encGt (ds.set i d') := own_seti h (fun _ => rfl) hi hj he
theorem set_get {α : Type} {L : List α} {i : Nat} {d d' : α} (h : L[i]? = some d) : (L.set i d')[i]? = some d' := by
  rw [List.getElem?_set_self (List.getElem?_eq_some_iff.1 h).1]
/-- One of them is written anew. -/
theorem gown_put6 {E : TypeId} {w : World} {B g n cap : Nat} {L : List Gt} (h : GOwn shGt E w B (.slice (some ⟨g, 0, none⟩) n cap) L) {i : Nat} {s : Gt} (hi : L[i]? = some s) (f b lk : Int) (P M : List Int) (o : Bool) (u v : Value) (hu : It w u P) (hv : It w v M) (hul : ∀ g', u.ownBlock = some g' → B ≤ g' ∧ g' < w.heap.size ∧ g' ≠ g) (hvl : ∀ g', v.ownBlock = some g' → B ≤ g' ∧ g' < w.heap.size ∧ g' ≠ g) :
    ∃ w', w' = (((((w.setCell ⟨g, i * 6, none⟩ (.int .i64 f)).setCell ⟨g, i * 6 + 1, none⟩ (.int .i64 b)).setCell ⟨g, i * 6 + 2, none⟩ u).setCell ⟨g, i * 6 + 3, none⟩ (.int .i64 lk)).setCell ⟨g, i * 6 + 4, none⟩ v).setCell ⟨g, i * 6 + 5, none⟩ (.bool o) ∧ GOwn shGt E w' B (.slice (some ⟨g, 0, none⟩) n cap) (L.set i ((f, b, lk, P, M), o)) ∧ w'.heap.size = w.heap.size ∧ w.grownBy w' (some g) := by
  have h' := h
  obtain ⟨ds, h1, h2⟩ := h
  obtain ⟨d, e1, e2, e3⟩ := h2.2 i s hi
  have hgr : w.grownBy ((((((w.setCell ⟨g, i * 6, none⟩ (.int .i64 f)).setCell ⟨g, i * 6 + 1, none⟩ (.int .i64 b)).setCell ⟨g, i * 6 + 2, none⟩ u).setCell ⟨g, i * 6 + 3, none⟩ (.int .i64 lk)).setCell ⟨g, i * 6 + 4, none⟩ v).setCell ⟨g, i * 6 + 5, none⟩ (.bool o)) (some g) := by
    have tr : ∀ {a b c : World}, a.grownBy b (some g) → b.grownBy c (some g) → a.grownBy c (some g) := fun h k => ⟨k.os.trans h.os, k.tape.trans h.tape, k.output.trans h.output, Nat.le_trans h.size k.size, fun i hi hne => (k.block i (Nat.lt_of_lt_of_le hi h.size) hne).trans (h.block i hi hne)⟩
    exact tr (tr (tr (tr (tr (grown_setC w _ _) (grown_setC _ _ _)) (grown_setC _ _ _)) (grown_setC _ _ _)) (grown_setC _ _ _)) (grown_setC _ _ _)
  have a0 := own_step6 h1 e1 0 (by decide) { d with f := f } (.int .i64 f) rfl
  have a1 := own_step6 a0 (set_get e1) 1 (by decide) { d with f := f, b := b } (.int .i64 b) rfl
  have a2 := own_step6 a1 (set_get (set_get e1)) 2 (by decide) { d with f := f, b := b, u := u } u rfl
  have a3 := own_step6 a2 (set_get (set_get (set_get e1))) 3 (by decide) { d with f := f, b := b, u := u, lk := lk } (.int .i64 lk) rfl
  have a4 := own_step6 a3 (set_get (set_get (set_get (set_get e1)))) 4 (by decide) { d with f := f, b := b, u := u, lk := lk, v := v } v rfl
  have a5 := own_step6 a4 (set_get (set_get (set_get (set_get (set_get e1))))) 5 (by decide) ⟨f, b, lk, u, v, o⟩ (.bool o) rfl
  simp only [List.set_set, Nat.add_zero] at a5
  have hil : i < L.length := (List.getElem?_eq_some_iff.1 hi).1
  refine ⟨_, rfl, ⟨_, a5, by simp [h2.1], fun j t hj => ?_⟩, by simp only [World.size_setCell], hgr⟩
  by_cases hij : i = j
  · subst hij
    rw [List.getElem?_set_self hil] at hj
    injection hj with hj
    subst hj
    refine ⟨⟨f, b, lk, u, v, o⟩, by rw [List.getElem?_set_self (by rw [h2.1]; exact hil)], ?_, fun x hx => ?_⟩
    · exact ⟨⟨rfl, rfl, rfl, rfl⟩, ⟨Rows.far hu.1 hgr (fun g' h1 e => by injection e with e; have := (hul g' h1).2.2; omega), hu.2⟩, ⟨Rows.far hv.1 hgr (fun g' h1 e => by injection e with e; have := (hvl g' h1).2.2; omega), hv.2⟩⟩
    · simp only [World.size_setCell]
      have hx' : x = u ∨ x = v := by simpa [shGt] using hx
      rcases hx' with rfl | rfl
      · exact ⟨fun g' h1 h2 => by simp [Value.ownBlock] at h2; have := (hul g' h1).2.2; omega, fun g' h1 => by have := hul g' h1; omega⟩
      · exact ⟨fun g' h1 h2 => by simp [Value.ownBlock] at h2; have := (hvl g' h1).2.2; omega, fun g' h1 => by have := hvl g' h1; omega⟩
  · rw [List.getElem?_set_ne hij] at hj
    obtain ⟨d2, a, b, c⟩ := h2.2 j t hj
    refine ⟨d2, by rw [List.getElem?_set_ne hij]; exact a, shGt.keep hgr (fun x hx g' h1 e => by injection e with e; subst e; exact (c x hx).1 _ h1 rfl) b, fun x hx => ⟨(c x hx).1, fun g' h1 => by simp only [World.size_setCell]; exact (c x hx).2 g' h1⟩⟩
theorem sm_put {L : List Gt} (h : ∀ s ∈ L, SmG s) {i : Nat} {x : Gt} (hx : SmG x) : ∀ t ∈ L.set i x, SmG t := fun t ht => by
  rcases List.mem_or_eq_of_mem_set ht with g | g
  · exact h t g
  · rw [g]; exact hx
end Go.Proofs.YtonojegnbcgnaaaDoor
