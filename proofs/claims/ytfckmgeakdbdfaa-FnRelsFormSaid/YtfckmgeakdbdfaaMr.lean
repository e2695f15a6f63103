/- A matrix of one's own that is written. -/
import Derived.Test.YtfckmgeakdbdfaaMa
import Derived.Laws.MakeOwn
set_option linter.unusedSimpArgs false
set_option linter.unusedVariables false
namespace Go.Proofs.Ytfckmgeakdbdfaa
open Go.RowKit

theorem grown_setC (w : World) (a : Addr) (u : Value) : w.grownBy (w.setCell a u) (some a.block) :=
  ⟨rfl, rfl, rfl, by simp [World.setCell], fun k _ hne => Below.heap_setCell _ _ _ _ (fun e => hne (by rw [e]))⟩
/-- A row of n small numbers, from block B on, that may be written. -/
def IRow (w : World) (B n : Nat) (u : Value) : Prop := ∃ g c, u = .slice (some ⟨g, 0, none⟩) n c ∧ n ≤ c ∧ c ≤ 9223372036854775807 ∧ B ≤ g ∧ ∀ j, j < n → ∃ x : Int, w.cell? ⟨g, j, none⟩ = some (.int .i64 x) ∧ 0 ≤ x ∧ x ≤ 9 ∧ w.frozen? ⟨g, j, none⟩ = false
theorem IRow.grown {w w' : World} {B n : Nat} {u : Value} (h : IRow w B n u) {row : Option Nat} (hg : w.grownBy w' row) (hr : ∀ g, u.ownBlock = some g → some g ≠ row) : IRow w' B n u := by
  obtain ⟨g, c, rfl, h1, h2, h3, h4⟩ := h
  refine ⟨g, c, rfl, h1, h2, h3, fun j hj => ?_⟩
  obtain ⟨x, e1, e2, e3, e4⟩ := h4 j hj
  have hb : w'.heap[g]? = w.heap[g]? := hg.block g (World.block_lt_of_cell? w _ e1) (hr g rfl)
  exact ⟨x, (World.cell?_of_block (w := w) (a := ⟨g, j, none⟩) hb).trans e1, e2, e3, (World.frozen?_of_block (w := w) (a := ⟨g, j, none⟩) hb).trans e4⟩
structure MatO (E : TypeId) (w : World) (B n : Nat) (v : Value) (vs : List Value) : Prop where
  own : w.ownsRow B E 1 v vs.length vs
  rows : ∀ u ∈ vs, IRow w B n u
theorem MatO.ne {E : TypeId} {w : World} {B n : Nat} {v : Value} {vs : List Value} (h : MatO E w B n v vs) (hn : 0 < n) {u : Value} (hu : u ∈ vs) : ∀ g, u.ownBlock = some g → some g ≠ v.ownBlock := by
  intro g hg he
  obtain ⟨g', c, rfl, _, _, _, h4⟩ := h.rows u hu
  injection hg with hg; subst hg
  obtain ⟨x, e1, _⟩ := h4 0 hn
  cases vs with
  | nil => cases hu
  | cons y vs =>
    have := h.own.cells he.symm 0 y rfl
    rw [addr_add] at this
    rw [this] at e1
    obtain ⟨_, _, rfl, _⟩ := h.rows y (List.mem_cons_self ..)
    cases e1
theorem MatO.grown {E : TypeId} {w w' : World} {B n : Nat} {v : Value} {vs : List Value} (h : MatO E w B n v vs) {row : Option Nat} (hg : w.grownBy w' row) (hr : ∀ g, row = some g → g < B) : MatO E w' B n v vs := by
  refine ⟨h.own.kept hg ?_, fun u hu => (h.rows u hu).grown hg fun g hg' he => ?_⟩
  · cases hv : v.ownBlock with
    | none => exact Or.inl rfl
    | some g => exact Or.inr (fun e => by have := hr g e.symm; have := (h.own.lt g hv).1; omega)
  · obtain ⟨g', c, rfl, _, _, h3, _⟩ := h.rows u hu
    injection hg' with hg'; subst hg'
    have := hr g' he.symm; omega
theorem MatO.kp {E : TypeId} {w w' : World} {B n r : Nat} {v : Value} {vs : List Value} (h : MatO E w B n v vs) (K : Kp r w w') (hr : r < B) : MatO E w' B n v vs := h.grown K.grownBy (fun g e => by injection e; omega)
theorem MatO.below {E : TypeId} {w w' : World} {B n : Nat} {v : Value} {vs : List Value} (h : MatO E w B n v vs) (K : Below w.heap.size w w') : MatO E w' B n v vs := h.grown (below_grownBy K) (fun g e => by cases e)
theorem MatO.alloc {E : TypeId} {w : World} {B n : Nat} {v : Value} {vs : List Value} (h : MatO E w B n v vs) (o : Obj) : MatO E (w.alloc o) B n v vs := h.below ((Below.refl _ _).alloc (Nat.le_refl _) _)
theorem MatO.drew {E : TypeId} {w : World} {B n : Nat} {v : Value} {vs : List Value} (h : MatO E w B n v vs) : MatO E w.drew B n v vs := h.below (Below.refl _ _).drew
theorem MatO.append {E : TypeId} {w w' : World} {B n : Nat} {v v' u : Value} {vs : List Value} (h : MatO E w B n v vs) (hn : 0 < n) (hu : IRow w B n u) (hne : ∀ g, u.ownBlock = some g → some g ≠ v.ownBlock) (hg : w.grownBy w' v.ownBlock) (ho : w'.ownsRow B E 1 v' (vs.length + 1) (vs ++ [u])) : MatO E w' B n v' (vs ++ [u]) := by
  refine ⟨by simpa using ho, fun y hy => ?_⟩
  rcases List.mem_append.1 hy with hy | hy
  · exact (h.rows y hy).grown hg (h.ne hn hy)
  · rw [List.mem_singleton.1 hy]; exact hu.grown hg hne
theorem IRow.set {w : World} {B n : Nat} {u : Value} (h : IRow w B n u) {p : Addr} (_hp : p.spot = none) {y : Int} (h0 : 0 ≤ y) (h9 : y ≤ 9) : IRow (w.setCell p (.int .i64 y)) B n u := by
  obtain ⟨g, c, rfl, h1, h2, h3, h4⟩ := h
  refine ⟨g, c, rfl, h1, h2, h3, fun j hj => ?_⟩
  obtain ⟨x, e1, e2, e3, e4⟩ := h4 j hj
  by_cases hp : p = ⟨g, j, none⟩
  · subst hp
    exact ⟨y, World.cell?_setCell_same _ _ _ e1, h0, h9, (World.frozen?_setCell _ _ _ _).trans e4⟩
  · exact ⟨x, (World.cell?_setCell_other _ _ _ _ (fun e => hp e)).trans e1, e2, e3, (World.frozen?_setCell _ _ _ _).trans e4⟩
theorem MatO.store {E : TypeId} {w : World} {B n : Nat} {v : Value} {vs : List Value} (h : MatO E w B n v vs) (hn : 0 < n) {i g c j : Nat} (hu : vs[i]? = some (.slice (some ⟨g, 0, none⟩) n c)) {y : Int} (h0 : 0 ≤ y) (h9 : y ≤ 9) : MatO E (w.setCell ⟨g, j, none⟩ (.int .i64 y)) B n v vs := by
  have hne := h.ne hn (List.mem_of_getElem? hu) g rfl
  refine ⟨h.own.kept (grown_setC w _ _) ?_, fun u hu => (h.rows u hu).set rfl h0 h9⟩
  exact Or.inr (fun e => hne e.symm)
/-- What stands in it. -/
theorem MatO.at {E : TypeId} {w : World} {B n : Nat} {v : Value} {vs : List Value} (h : MatO E w B n v vs) {go cap k : Nat} (hv : v = .slice (some ⟨go, 0, none⟩) k cap) {i : Nat} (hi : i < vs.length) :
    ∃ g c, vs[i]? = some (.slice (some ⟨g, 0, none⟩) n c) ∧ w.cell? ⟨go, i, none⟩ = some (.slice (some ⟨g, 0, none⟩) n c) ∧ n ≤ c ∧ c ≤ 9223372036854775807 ∧ B ≤ g ∧ ∀ j, j < n → ∃ x : Int, w.cell? ⟨g, j, none⟩ = some (.int .i64 x) ∧ 0 ≤ x ∧ x ≤ 9 ∧ w.frozen? ⟨g, j, none⟩ = false := by
  subst hv
  have hu := List.getElem?_eq_getElem hi
  obtain ⟨g, c, e, h1, h2, h3, h4⟩ := h.rows _ (List.mem_of_getElem? hu)
  have hc := h.own.cells (g := go) rfl i _ hu
  rw [addr_add] at hc
  rw [e] at hu hc
  exact ⟨g, c, hu, hc, h1, h2, h3, h4⟩
theorem MatO.slice {E : TypeId} {w : World} {B n : Nat} {v : Value} {vs : List Value} (h : MatO E w B n v vs) (hl : 0 < vs.length) : ∃ g cap, v = .slice (some ⟨g, 0, none⟩) vs.length cap ∧ vs.length ≤ cap ∧ cap ≤ 9223372036854775807 ∧ B ≤ g := by
  obtain ⟨h1, ⟨rfl, h2⟩ | ⟨g, cap, cur, rfl, h2, h3, h4, h5, h6, h7⟩⟩ := h.own
  · omega
  · exact ⟨g, cap, rfl, h4, by unfold maxLen at h5; omega, h2⟩
theorem IRow.ints {w : World} {B n : Nat} {u : Value} (h : IRow w B n u) : ∃ r : List Int, Ints w u r ∧ r.length = n ∧ ∀ x ∈ r, 0 ≤ x ∧ x ≤ 9 := by
  obtain ⟨g, c, rfl, h1, h2, h3, h4⟩ := h
  have hx : ∀ j : Nat, ∃ x : Int, j < n → w.cell? ⟨g, j, none⟩ = some (.int .i64 x) ∧ 0 ≤ x ∧ x ≤ 9 := fun j => by
    by_cases hj : j < n
    · obtain ⟨x, e1, e2, e3, _⟩ := h4 j hj; exact ⟨x, fun _ => ⟨e1, e2, e3⟩⟩
    · exact ⟨0, fun h => (hj h).elim⟩
  refine ⟨(List.range n).map fun j => Classical.choose (hx j), ⟨some ⟨g, 0, none⟩, c, by simp, by simpa using h1, h2, fun k x hk => ⟨g, 0, rfl, fun j u hu => ?_⟩⟩, by simp, fun x hx' => ?_⟩
  · have hk' : k < n := by have := (List.getElem?_eq_some_iff.1 hk).1; simpa using this
    have e : x = Classical.choose (hx k) := by
      have := (List.getElem?_eq_some_iff.1 hk).2; simpa using this.symm
    cases j with
    | zero => simp [encI] at hu; subst hu; subst e; simpa using (Classical.choose_spec (hx k) hk').1
    | succ j => simp [encI] at hu
  · obtain ⟨j, hj, rfl⟩ := List.mem_map.1 hx'
    have hj' : j < n := by simpa using hj
    exact (Classical.choose_spec (hx j) hj').2
theorem flat_encV : ∀ vs : List Value, vs = vs.flatMap encV
  | [] => rfl
  | y :: vs => by rw [List.flatMap_cons, ← flat_encV vs]; rfl
theorem MatO.mat {E : TypeId} {w : World} {B n : Nat} {v : Value} {vs : List Value} (h : MatO E w B n v vs) : ∃ M, Mat w v M ∧ M.length = vs.length ∧ ∀ r ∈ M, r.length = n ∧ ∀ x ∈ r, 0 ≤ x ∧ x ≤ 9 := by
  have hx : ∀ i : Nat, ∃ r : List Int, ∀ u, vs[i]? = some u → Ints w u r ∧ r.length = n ∧ ∀ x ∈ r, 0 ≤ x ∧ x ≤ 9 := fun i => by
    cases hu : vs[i]? with
    | none => exact ⟨[], fun u e => by cases e⟩
    | some u =>
      obtain ⟨r, hr⟩ := (h.rows u (List.mem_of_getElem? hu)).ints
      exact ⟨r, fun u' e => by injection e with e; rw [← e]; exact hr⟩
  refine ⟨(List.range vs.length).map fun i => Classical.choose (hx i), ⟨vs, Rows.of_own h.own (fun _ => rfl) rfl (flat_encV vs), by simp, fun i r hi => ?_⟩, by simp, fun r hr => ?_⟩
  · have hi' : i < vs.length := by have := (List.getElem?_eq_some_iff.1 hi).1; simpa using this
    have e : r = Classical.choose (hx i) := by
      have := (List.getElem?_eq_some_iff.1 hi).2; simpa using this.symm
    refine ⟨vs[i], List.getElem?_eq_getElem hi', ?_⟩
    rw [e]; exact (Classical.choose_spec (hx i) _ (List.getElem?_eq_getElem hi')).1
  · obtain ⟨i, hi, rfl⟩ := List.mem_map.1 hr
    have hi' : i < vs.length := by simpa using hi
    exact (Classical.choose_spec (hx i) _ (List.getElem?_eq_getElem hi')).2
theorem own_base {w : World} {B B' e size n : Nat} {v : Value} {xs : List Value} (h : w.ownsRow B' e size v n xs) (hB : B ≤ B') : w.ownsRow B e size v n xs := by
  obtain ⟨h1, ⟨e1, e2⟩ | ⟨g, cap, cur, rfl, h2, h3⟩⟩ := h
  · exact ⟨h1, Or.inl ⟨e1, e2⟩⟩
  · exact ⟨h1, Or.inr ⟨g, cap, cur, rfl, Nat.le_trans hB h2, h3⟩⟩
theorem MatO.base {E : TypeId} {w : World} {B B' n : Nat} {v : Value} {vs : List Value} (h : MatO E w B' n v vs) (hB : B ≤ B') : MatO E w B n v vs :=
  ⟨own_base h.own hB, fun u hu => by obtain ⟨g, c, e, h1, h2, h3, h4⟩ := h.rows u hu; exact ⟨g, c, e, h1, h2, Nat.le_trans hB h3, h4⟩⟩
/-- A row of numbers that has been filled. -/
theorem irow_of_own {w : World} {B n E : Nat} {v : Value} {xs : List Int} (h : w.ownsRow B E 1 v n (xs.map (Value.int .i64))) (hn : xs.length = n) (hp : 0 < n) (hx : ∀ x ∈ xs, 0 ≤ x ∧ x ≤ 9) : IRow w B n v := by
  have hc := fun g hg => h.cells (g := g) hg
  obtain ⟨h1, ⟨rfl, h2⟩ | ⟨g, cap, cur, rfl, h2, h3, h4, h5, h6, h7⟩⟩ := h
  · omega
  · refine ⟨g, cap, rfl, h4, by unfold maxLen at h5; omega, h2, fun j hj => ?_⟩
    have hj' : j < xs.length := by omega
    refine ⟨xs[j], ?_, (hx _ (List.getElem_mem hj')).1, (hx _ (List.getElem_mem hj')).2, ?_⟩
    · have := hc g rfl j (.int .i64 xs[j]) (by simp [hj'])
      rwa [addr_add] at this
    · unfold World.frozen?; simp [h3]
/-- n noughts. -/
def zarr (n : Nat) : Array Value := madeCells #[.int .i64 0] n
theorem zarr_at {n j : Nat} (h : j < n) : (zarr n)[j]? = some (.int .i64 0) := by
  have : (zarr n).toList = List.replicate n (.int .i64 0) := toList_madeCells_one _ _
  rw [← Array.getElem?_toList, this]; simp [h]
theorem IRow.made {w : World} {B n : Nat} (T : TypeId) (hn : n ≤ 9223372036854775807) (hB : B ≤ w.heap.size) : IRow (w.alloc (.cells (zarr n) T)) B n (.slice (some ⟨w.heap.size, 0, none⟩) n n) :=
  ⟨w.heap.size, n, rfl, Nat.le_refl _, hn, hB, fun j hj => ⟨0, by simp [zarr_at hj], by omega, by omega, by simp⟩⟩
end Go.Proofs.Ytfckmgeakdbdfaa
