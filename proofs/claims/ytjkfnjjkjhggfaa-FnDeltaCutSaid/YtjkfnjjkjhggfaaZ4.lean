/- Rows of numbers, and rows of rows; what a matrix of relations is. A matrix of one's own that is written. Slices of elements that hold slices themselves, in general: how they read, and one's own growing ones. -/
import Derived.Test.YtjkfnjjkjhggfaaZ3
import Derived.Laws.MakeOwn
set_option linter.unusedSimpArgs false
set_option linter.unusedVariables false
namespace Go.Proofs.Ytjkfnjjkjhggfaa
open Go.RowKit

def encI (n : Int) : List Value := [.int .i64 n]
def encV (u : Value) : List Value := [u]
abbrev Ints (w : World) (v : Value) (L : List Int) : Prop := Rows w v 1 encI L
theorem Ints.cases {w : World} {v : Value} {L : List Int} (h : Ints w v L) :
    ∃ n cap, Hid (L.length = n) ∧ n ≤ cap ∧ cap ≤ 9223372036854775807 ∧ ((n ≤ 0 ∧ ∃ ao, v = .slice ao n cap) ∨ (0 < n ∧ ∃ b off, v = .slice (some ⟨b, off, none⟩) n cap ∧ Hid (∀ k x, L[k]? = some x → w.cell? ⟨b, off + k, none⟩ = some (.int .i64 x)))) := by
  obtain ⟨n, cap, hn, h1, h2, h3⟩ := Rows.cases h
  refine ⟨n, cap, hn, h1, h2, ?_⟩
  rcases h3 with h3 | ⟨hp, b, off, rfl, hc⟩
  · exact Or.inl h3
  · refine Or.inr ⟨hp, b, off, rfl, fun k x hk => ?_⟩
    have := hc.out k x hk 0 _ rfl
    simpa using this
/-- The number at a place. -/
theorem Ints.get {w : World} {b off n cap : Nat} {L : List Int} (h : Ints w (.slice (some ⟨b, off, none⟩) n cap) L) {k : Nat} {x : Int} (hk : L[k]? = some x) : w.cell? ⟨b, off + k, none⟩ = some (.int .i64 x) := by
  have := Rows.get h hk (j := 0) rfl
  simpa using this
theorem Ints.getD {w : World} {b off n cap : Nat} {L : List Int} (h : Ints w (.slice (some ⟨b, off, none⟩) n cap) L) {k : Nat} (hk : k < L.length) : w.cell? ⟨b, off + k, none⟩ = some (.int .i64 (L.getD k 0)) :=
  h.get (by rw [List.getElem?_eq_getElem hk]; simp [List.getD, hk])

/-- A slice of slices of numbers that reads as the matrix M. -/
structure Mat (w : World) (v : Value) (M : List (List Int)) : Prop where
  ex : ∃ vs : List Value, Rows w v 1 encV vs ∧ vs.length = M.length ∧ ∀ (i : Nat) (r : List Int), M[i]? = some r → ∃ u : Value, vs[i]? = some u ∧ Ints w u r
theorem Mat.below {w w' : World} {v : Value} {M : List (List Int)} (h : Mat w v M) (hb : Below w.heap.size w w') : Mat w' v M := by
  obtain ⟨vs, h1, h2, h3⟩ := h.ex
  refine ⟨vs, h1.below hb, h2, fun i r hi => ?_⟩
  obtain ⟨u, hu, hr⟩ := h3 i r hi
  exact ⟨u, hu, hr.below hb⟩
theorem Mat.alloc {w : World} {v : Value} {M : List (List Int)} (h : Mat w v M) (o : Obj) : Mat (w.alloc o) v M := h.below ((Below.refl _ _).alloc (Nat.le_refl _) _)
theorem Mat.cases {w : World} {v : Value} {M : List (List Int)} (h : Mat w v M) :
    ∃ n cap, Hid (M.length = n) ∧ n ≤ cap ∧ cap ≤ 9223372036854775807 ∧ ((n ≤ 0 ∧ ∃ ao, v = .slice ao n cap) ∨ (0 < n ∧ ∃ b off, v = .slice (some ⟨b, off, none⟩) n cap)) := by
  obtain ⟨vs, h1, h2, h3⟩ := h.ex
  obtain ⟨n, cap, hn, k1, k2, k3⟩ := Rows.cases h1
  refine ⟨n, cap, h2.symm.trans hn.out, k1, k2, ?_⟩
  rcases k3 with k3 | ⟨hp, b, off, rfl, hc⟩
  · exact Or.inl k3
  · exact Or.inr ⟨hp, b, off, rfl⟩
/-- A row of it: its slice's address, and what stands in it. -/
theorem Mat.at {w : World} {b off n cap : Nat} {M : List (List Int)} (h : Mat w (.slice (some ⟨b, off, none⟩) n cap) M) {k : Nat} (hk : k < M.length) :
    ∃ a m c, w.cell? ⟨b, off + k, none⟩ = some (.slice a m c) ∧ Hid ((M.getD k []).length = m) ∧ Ints w (.slice a m c) (M.getD k []) ∧ m ≤ c ∧ c ≤ 9223372036854775807 := by
  obtain ⟨vs, h1, h2, h3⟩ := h.ex
  obtain ⟨u, hu, hr⟩ := h3 k M[k] (List.getElem?_eq_getElem hk)
  have hc := Rows.get h1 hu (j := 0) (u := u) rfl
  obtain ⟨ao, c, rfl, g1, g2, _⟩ := hr.ex
  have e : M.getD k [] = M[k] := by simp [List.getD, hk]
  refine ⟨ao, M[k].length, c, ?_, ?_, ?_, g1, g2⟩
  · simpa using hc
  · show _ = _; rw [e]
  · rw [e]; exact hr
theorem Ints.some {w : World} {a : Option Addr} {m c : Nat} {L : List Int} (h : Ints w (.slice a m c) L) (hm : 0 < m) : ∃ b off, a = some ⟨b, off, none⟩ := by
  obtain ⟨n, cap, hn, _, _, ⟨h0, ao, e⟩ | ⟨_, b, off, e, _⟩⟩ := Ints.cases h
  · injection e with e1 e2 e3; omega
  · injection e with e1 e2 e3; exact ⟨b, off, e1⟩

def mget (M : List (List Int)) (i k : Nat) : Int := (M.getD i []).getD k 0
/-- What the other is to one, if one is so much to it. -/
def bk (r : Int) : Int := if r = 1 then 3 else if r = 3 then 1 else r
def OkAt (M : List (List Int)) (i k : Nat) : Prop := (M.getD k []).length = M.length ∧ Bts (mget M i k) 0 3 ∧ mget M k i = bk (mget M i k) ∧ (i = k → mget M i k = 0)
instance (M : List (List Int)) (i k : Nat) : Decidable (OkAt M i k) := by unfold OkAt; infer_instance
def RowOk (M : List (List Int)) (i : Nat) : Prop := (M.getD i []).length = M.length ∧ ∀ k, k < M.length → OkAt M i k
instance (M : List (List Int)) (i : Nat) : Decidable (RowOk M i) := by unfold RowOk; infer_instance
def RelsP (M : List (List Int)) : Prop := (∀ i, i < M.length → RowOk M i) ∧ 1 ≤ M.length ∧ M.length ≤ 5
instance (M : List (List Int)) : Decidable (RelsP M) := by unfold RelsP; infer_instance
theorem bk_bk {r : Int} (h : Bts r 0 3) : bk (bk r) = r ∧ Bts (bk r) 0 3 := by
  unfold Bts at *; unfold bk; repeat' split
  all_goals omega
theorem relsP_no {M : List (List Int)} {n i k : Nat} (hn : M.length = n) (hi : i < n) (hk : k < n) (h : ¬ OkAt M i k) : decide (RelsP M) = false := by
  simp only [decide_eq_false_iff_not]
  exact fun hp => h ((hp.1 i (by omega)).2 k (by omega))
theorem relsP_row {M : List (List Int)} {n i : Nat} (hn : M.length = n) (hi : i < n) (h : (M.getD i []).length ≠ n) : decide (RelsP M) = false := by
  simp only [decide_eq_false_iff_not]
  exact fun hp => h (by rw [(hp.1 i (by omega)).1, hn])
theorem relsP_all {M : List (List Int)} {n : Nat} (hn : M.length = n) (h : ∀ i, i < n → RowOk M i) : decide (RelsP M) = decide (Bts (n : Int) 1 5) := by
  refine decide_eq_decide.2 ?_
  unfold RelsP Bts
  constructor
  · rintro ⟨_, h1, h2⟩; omega
  · rintro ⟨h1, h2⟩; exact ⟨fun i hi => h i (by omega), by omega, by omega⟩
end Go.Proofs.Ytjkfnjjkjhggfaa
set_option linter.unusedSimpArgs false
set_option linter.unusedVariables false
namespace Go.Proofs.Ytjkfnjjkjhggfaa
open Go.RowKit

theorem grown_setC (w : World) (a : Addr) (u : Value) : w.grownBy (w.setCell a u) (some a.block) :=
  ⟨rfl, rfl, rfl, by simp [World.setCell], fun k _ hne => Below.heap_setCell _ _ _ _ (fun e => hne (by rw [e]))⟩
/-- A row of n small numbers, from block B on, that may be written. -/
def IRow (w : World) (B n : Nat) (u : Value) : Prop := ∃ g c, u = .slice (some ⟨g, 0, none⟩) n c ∧ n ≤ c ∧ c ≤ 9223372036854775807 ∧ B ≤ g ∧ ∀ j, j < n → ∃ x : Int, w.cell? ⟨g, j, none⟩ = some (.int .i64 x) ∧ 0 ≤ x ∧ x ≤ 9 ∧ w.frozen? ⟨g, j, none⟩ = false
theorem IRow.grown {w w' : World} {B n : Nat} {u : Value} (h : IRow w B n u) {row : Option Nat} (hg : w.grownBy w' row) (hr : ∀ g, u.ownBlock = some g → some g ≠ row) : IRow w' B n u := by
  obtain ⟨g, c, rfl, h1, h2, h3, h4⟩ := h
  refine ⟨g, c, rfl, h1, h2, h3, fun j hj => ?_⟩
  obtain ⟨x, e1, e2, e3, e4⟩ := h4 j hj
  have hb : w'.heap[g]? = w.heap[g]? := hg.block g (World.block_lt_of_cell? w _ e1) (hr g rfl)
  exact ⟨x, (World.cell?_of_block (w := w) (a := ⟨g, j, none⟩) hb).trans e1, e2, e3, (World.frozen?_of_block (w := w) (a := ⟨g, j, none⟩) hb).trans e4⟩
structure MatO (E : TypeId) (w : World) (B n : Nat) (v : Value) (vs : List Value) : Prop where
  own : w.ownsRow B E 1 v vs.length vs
  rows : ∀ u ∈ vs, IRow w B n u
theorem MatO.ne {E : TypeId} {w : World} {B n : Nat} {v : Value} {vs : List Value} (h : MatO E w B n v vs) (hn : 0 < n) {u : Value} (hu : u ∈ vs) : ∀ g, u.ownBlock = some g → some g ≠ v.ownBlock := by
  intro g hg he
  obtain ⟨g', c, rfl, _, _, _, h4⟩ := h.rows u hu
  injection hg with hg; subst hg
  obtain ⟨x, e1, _⟩ := h4 0 hn
  cases vs with
  | nil => cases hu
  | cons y vs =>
    have := h.own.cells he.symm 0 y rfl
    rw [addr_add] at this
    rw [this] at e1
    obtain ⟨_, _, rfl, _⟩ := h.rows y (List.mem_cons_self ..)
    cases e1
theorem MatO.grown {E : TypeId} {w w' : World} {B n : Nat} {v : Value} {vs : List Value} (h : MatO E w B n v vs) {row : Option Nat} (hg : w.grownBy w' row) (hr : ∀ g, row = some g → g < B) : MatO E w' B n v vs := by
  refine ⟨h.own.kept hg ?_, fun u hu => (h.rows u hu).grown hg fun g hg' he => ?_⟩
  · cases hv : v.ownBlock with
    | none => exact Or.inl rfl
    | some g => exact Or.inr (fun e => by have := hr g e.symm; have := (h.own.lt g hv).1; omega)
  · obtain ⟨g', c, rfl, _, _, h3, _⟩ := h.rows u hu
    injection hg' with hg'; subst hg'
    have := hr g' he.symm; omega
theorem MatO.kp {E : TypeId} {w w' : World} {B n r : Nat} {v : Value} {vs : List Value} (h : MatO E w B n v vs) (K : Kp r w w') (hr : r < B) : MatO E w' B n v vs := h.grown K.grownBy (fun g e => by injection e; omega)
theorem MatO.below {E : TypeId} {w w' : World} {B n : Nat} {v : Value} {vs : List Value} (h : MatO E w B n v vs) (K : Below w.heap.size w w') : MatO E w' B n v vs := h.grown (below_grownBy K) (fun g e => by cases e)
theorem MatO.alloc {E : TypeId} {w : World} {B n : Nat} {v : Value} {vs : List Value} (h : MatO E w B n v vs) (o : Obj) : MatO E (w.alloc o) B n v vs := h.below ((Below.refl _ _).alloc (Nat.le_refl _) _)
theorem MatO.drew {E : TypeId} {w : World} {B n : Nat} {v : Value} {vs : List Value} (h : MatO E w B n v vs) : MatO E w.drew B n v vs := h.below (Below.refl _ _).drew
theorem MatO.append {E : TypeId} {w w' : World} {B n : Nat} {v v' u : Value} {vs : List Value} (h : MatO E w B n v vs) (hn : 0 < n) (hu : IRow w B n u) (hne : ∀ g, u.ownBlock = some g → some g ≠ v.ownBlock) (hg : w.grownBy w' v.ownBlock) (ho : w'.ownsRow B E 1 v' (vs.length + 1) (vs ++ [u])) : MatO E w' B n v' (vs ++ [u]) := by
  refine ⟨by simpa using ho, fun y hy => ?_⟩
  rcases List.mem_append.1 hy with hy | hy
  · exact (h.rows y hy).grown hg (h.ne hn hy)
  · rw [List.mem_singleton.1 hy]; exact hu.grown hg hne
theorem IRow.set {w : World} {B n : Nat} {u : Value} (h : IRow w B n u) {p : Addr} (_hp : p.spot = none) {y : Int} (h0 : 0 ≤ y) (h9 : y ≤ 9) : IRow (w.setCell p (.int .i64 y)) B n u := by
  obtain ⟨g, c, rfl, h1, h2, h3, h4⟩ := h
  refine ⟨g, c, rfl, h1, h2, h3, fun j hj => ?_⟩
  obtain ⟨x, e1, e2, e3, e4⟩ := h4 j hj
  by_cases hp : p = ⟨g, j, none⟩
  · subst hp
    exact ⟨y, World.cell?_setCell_same _ _ _ e1, h0, h9, (World.frozen?_setCell _ _ _ _).trans e4⟩
  · exact ⟨x, (World.cell?_setCell_other _ _ _ _ (fun e => hp e)).trans e1, e2, e3, (World.frozen?_setCell _ _ _ _).trans e4⟩
theorem MatO.store {E : TypeId} {w : World} {B n : Nat} {v : Value} {vs : List Value} (h : MatO E w B n v vs) (hn : 0 < n) {i g c j : Nat} (hu : vs[i]? = some (.slice (some ⟨g, 0, none⟩) n c)) {y : Int} (h0 : 0 ≤ y) (h9 : y ≤ 9) : MatO E (w.setCell ⟨g, j, none⟩ (.int .i64 y)) B n v vs := by
  have hne := h.ne hn (List.mem_of_getElem? hu) g rfl
  refine ⟨h.own.kept (grown_setC w _ _) ?_, fun u hu => (h.rows u hu).set rfl h0 h9⟩
  exact Or.inr (fun e => hne e.symm)
/-- What stands in it. -/
theorem MatO.at {E : TypeId} {w : World} {B n : Nat} {v : Value} {vs : List Value} (h : MatO E w B n v vs) {go cap k : Nat} (hv : v = .slice (some ⟨go, 0, none⟩) k cap) {i : Nat} (hi : i < vs.length) :
    ∃ g c, vs[i]? = some (.slice (some ⟨g, 0, none⟩) n c) ∧ w.cell? ⟨go, i, none⟩ = some (.slice (some ⟨g, 0, none⟩) n c) ∧ n ≤ c ∧ c ≤ 9223372036854775807 ∧ B ≤ g ∧ ∀ j, j < n → ∃ x : Int, w.cell? ⟨g, j, none⟩ = some (.int .i64 x) ∧ 0 ≤ x ∧ x ≤ 9 ∧ w.frozen? ⟨g, j, none⟩ = false := by
  subst hv
  have hu := List.getElem?_eq_getElem hi
  obtain ⟨g, c, e, h1, h2, h3, h4⟩ := h.rows _ (List.mem_of_getElem? hu)
  have hc := h.own.cells (g := go) rfl i _ hu
  rw [addr_add] at hc
  rw [e] at hu hc
  exact ⟨g, c, hu, hc, h1, h2, h3, h4⟩
theorem MatO.slice {E : TypeId} {w : World} {B n : Nat} {v : Value} {vs : List Value} (h : MatO E w B n v vs) (hl : 0 < vs.length) : ∃ g cap, v = .slice (some ⟨g, 0, none⟩) vs.length cap ∧ vs.length ≤ cap ∧ cap ≤ 9223372036854775807 ∧ B ≤ g := by
  obtain ⟨h1, ⟨rfl, h2⟩ | ⟨g, cap, cur, rfl, h2, h3, h4, h5, h6, h7⟩⟩ := h.own
  · omega
  · exact ⟨g, cap, rfl, h4, by unfold maxLen at h5; omega, h2⟩
theorem IRow.ints {w : World} {B n : Nat} {u : Value} (h : IRow w B n u) : ∃ r : List Int, Ints w u r ∧ r.length = n ∧ ∀ x ∈ r, 0 ≤ x ∧ x ≤ 9 := by
  obtain ⟨g, c, rfl, h1, h2, h3, h4⟩ := h
  have hx : ∀ j : Nat, ∃ x : Int, j < n → w.cell? ⟨g, j, none⟩ = some (.int .i64 x) ∧ 0 ≤ x ∧ x ≤ 9 := fun j => by
    by_cases hj : j < n
    · obtain ⟨x, e1, e2, e3, _⟩ := h4 j hj; exact ⟨x, fun _ => ⟨e1, e2, e3⟩⟩
    · exact ⟨0, fun h => (hj h).elim⟩
  refine ⟨(List.range n).map fun j => Classical.choose (hx j), ⟨some ⟨g, 0, none⟩, c, by simp, by simpa using h1, h2, fun k x hk => ⟨g, 0, rfl, fun j u hu => ?_⟩⟩, by simp, fun x hx' => ?_⟩
  · have hk' : k < n := by have := (List.getElem?_eq_some_iff.1 hk).1; simpa using this
    have e : x = Classical.choose (hx k) := by
      have := (List.getElem?_eq_some_iff.1 hk).2; simpa using this.symm
    cases j with
    | zero => simp [encI] at hu; subst hu; subst e; simpa using (Classical.choose_spec (hx k) hk').1
    | succ j => simp [encI] at hu
  · obtain ⟨j, hj, rfl⟩ := List.mem_map.1 hx'
    have hj' : j < n := by simpa using hj
    exact (Classical.choose_spec (hx j) hj').2
theorem flat_encV : ∀ vs : List Value, vs = vs.flatMap encV
  | [] => rfl
  | y :: vs => by rw [List.flatMap_cons, ← flat_encV vs]; rfl
theorem MatO.mat {E : TypeId} {w : World} {B n : Nat} {v : Value} {vs : List Value} (h : MatO E w B n v vs) : ∃ M, Mat w v M ∧ M.length = vs.length ∧ ∀ r ∈ M, r.length = n ∧ ∀ x ∈ r, 0 ≤ x ∧ x ≤ 9 := by
  have hx : ∀ i : Nat, ∃ r : List Int, ∀ u, vs[i]? = some u → Ints w u r ∧ r.length = n ∧ ∀ x ∈ r, 0 ≤ x ∧ x ≤ 9 := fun i => by
    cases hu : vs[i]? with
    | none => exact ⟨[], fun u e => by cases e⟩
    | some u =>
      obtain ⟨r, hr⟩ := (h.rows u (List.mem_of_getElem? hu)).ints
      exact ⟨r, fun u' e => by injection e with e; rw [← e]; exact hr⟩
  refine ⟨(List.range vs.length).map fun i => Classical.choose (hx i), ⟨vs, Rows.of_own h.own (fun _ => rfl) rfl (flat_encV vs), by simp, fun i r hi => ?_⟩, by simp, fun r hr => ?_⟩
  · have hi' : i < vs.length := by have := (List.getElem?_eq_some_iff.1 hi).1; simpa using this
    have e : r = Classical.choose (hx i) := by
      have := (List.getElem?_eq_some_iff.1 hi).2; simpa using this.symm
    refine ⟨vs[i], List.getElem?_eq_getElem hi', ?_⟩
    rw [e]; exact (Classical.choose_spec (hx i) _ (List.getElem?_eq_getElem hi')).1
  · obtain ⟨i, hi, rfl⟩ := List.mem_map.1 hr
    have hi' : i < vs.length := by simpa using hi
    exact (Classical.choose_spec (hx i) _ (List.getElem?_eq_getElem hi')).2
theorem own_base {w : World} {B B' e size n : Nat} {v : Value} {xs : List Value} (h : w.ownsRow B' e size v n xs) (hB : B ≤ B') : w.ownsRow B e size v n xs := by
  obtain ⟨h1, ⟨e1, e2⟩ | ⟨g, cap, cur, rfl, h2, h3⟩⟩ := h
  · exact ⟨h1, Or.inl ⟨e1, e2⟩⟩
  · exact ⟨h1, Or.inr ⟨g, cap, cur, rfl, Nat.le_trans hB h2, h3⟩⟩
theorem MatO.base {E : TypeId} {w : World} {B B' n : Nat} {v : Value} {vs : List Value} (h : MatO E w B' n v vs) (hB : B ≤ B') : MatO E w B n v vs :=
  ⟨own_base h.own hB, fun u hu => by obtain ⟨g, c, e, h1, h2, h3, h4⟩ := h.rows u hu; exact ⟨g, c, e, h1, h2, Nat.le_trans hB h3, h4⟩⟩
/-- A row of numbers that has been filled. -/
theorem irow_of_own {w : World} {B n E : Nat} {v : Value} {xs : List Int} (h : w.ownsRow B E 1 v n (xs.map (Value.int .i64))) (hn : xs.length = n) (hp : 0 < n) (hx : ∀ x ∈ xs, 0 ≤ x ∧ x ≤ 9) : IRow w B n v := by
  have hc := fun g hg => h.cells (g := g) hg
  obtain ⟨h1, ⟨rfl, h2⟩ | ⟨g, cap, cur, rfl, h2, h3, h4, h5, h6, h7⟩⟩ := h
  · omega
  · refine ⟨g, cap, rfl, h4, by unfold maxLen at h5; omega, h2, fun j hj => ?_⟩
    have hj' : j < xs.length := by omega
    refine ⟨xs[j], ?_, (hx _ (List.getElem_mem hj')).1, (hx _ (List.getElem_mem hj')).2, ?_⟩
    · have := hc g rfl j (.int .i64 xs[j]) (by simp [hj'])
      rwa [addr_add] at this
    · unfold World.frozen?; simp [h3]
/-- n noughts. -/
def zarr (n : Nat) : Array Value := madeCells #[.int .i64 0] n
theorem zarr_at {n j : Nat} (h : j < n) : (zarr n)[j]? = some (.int .i64 0) := by
  have : (zarr n).toList = List.replicate n (.int .i64 0) := toList_madeCells_one _ _
  rw [← Array.getElem?_toList, this]; simp [h]
theorem IRow.made {w : World} {B n : Nat} (T : TypeId) (hn : n ≤ 9223372036854775807) (hB : B ≤ w.heap.size) : IRow (w.alloc (.cells (zarr n) T)) B n (.slice (some ⟨w.heap.size, 0, none⟩) n n) :=
  ⟨w.heap.size, n, rfl, Nat.le_refl _, hn, hB, fun j hj => ⟨0, by simp [zarr_at hj], by omega, by omega, by simp⟩⟩
end Go.Proofs.Ytjkfnjjkjhggfaa
set_option linter.unusedSimpArgs false
set_option linter.unusedVariables false
namespace Go.Proofs.Ytjkfnjjkjhggfaa
open Go.RowKit

theorem Rows.far {α : Type} {w w' : World} {v : Value} {sz : Nat} {enc : α → List Value} {L : List α} {row : Option Nat} (h : Rows w v sz enc L) (hg : w.grownBy w' row) (hv : ∀ g, v.ownBlock = some g → row ≠ some g) : Rows w' v sz enc L := by
  rcases row with _ | r
  · exact Rows.grown h (u := .slice Option.none 0 0) (by simpa [Value.ownBlock] using hg) (apart_nil _ _ _)
  · exact Rows.grown h (u := .slice (some ⟨r, 0, Option.none⟩) 0 0) (by simpa [Value.ownBlock] using hg) (fun g h1 h2 => hv g h1 (by simpa [Value.ownBlock] using h2))
/-- How an element lies: its cells, the slices that it holds, and what it reads as. -/
structure Sh (δ β : Type) where
  sz : Nat
  enc : δ → List Value
  len : ∀ d, (enc d).length = sz
  pos : 0 < sz
  subs : δ → List Value
  rd : World → δ → β → Prop
  keep : ∀ {w w' : World} {row : Option Nat} {d : δ} {s : β}, w.grownBy w' row → (∀ u ∈ subs d, ∀ g, u.ownBlock = some g → row ≠ some g) → rd w d s → rd w' d s
  one : ∀ {w : World} {d : δ} {s : β}, rd w d s → ∀ u ∈ enc d, u.oneCell' = true

section
variable {δ β : Type} {S : Sh δ β}
theorem Sh.below {w w' : World} {d : δ} {s : β} (h : S.rd w d s) (hb : Below w.heap.size w w') : S.rd w' d s := S.keep (below_grownBy hb) (fun _ _ _ _ e => by cases e) h
/-- A slice that reads as the list L. -/
structure GLs (S : Sh δ β) (w : World) (v : Value) (L : List β) : Prop where
  ex : ∃ ds : List δ, Rows w v S.sz S.enc ds ∧ ds.length = L.length ∧ ∀ (k : Nat) (s : β), L[k]? = some s → ∃ d : δ, ds[k]? = some d ∧ S.rd w d s
theorem GLs.below {w w' : World} {v : Value} {L : List β} (h : GLs S w v L) (hb : Below w.heap.size w w') : GLs S w' v L := by
  obtain ⟨ds, h1, h2, h3⟩ := h.ex
  exact ⟨ds, h1.below hb, h2, fun k s hk => by obtain ⟨d, hd, hr⟩ := h3 k s hk; exact ⟨d, hd, Sh.below hr hb⟩⟩
theorem GLs.sl {w : World} {v : Value} {L : List β} (h : GLs S w v L) : ∃ ao n cap, v = .slice ao n cap ∧ Hid (L.length = n) ∧ n ≤ cap ∧ cap ≤ 9223372036854775807 := by
  obtain ⟨ds, h1, h2, h3⟩ := h.ex
  obtain ⟨ao, cap, e, k1, k2, _⟩ := h1.ex
  exact ⟨ao, _, cap, e, h2.symm, k1, k2⟩
theorem GLs.adr {w : World} {a : Option Addr} {n c : Nat} {L : List β} (h : GLs S w (.slice a n c) L) (hn : 0 < n) : ∃ b off, a = some ⟨b, off, none⟩ := by
  obtain ⟨ds, h1, h2, h3⟩ := h.ex
  obtain ⟨m, cap, hm, _, _, ⟨h0, ao, e⟩ | ⟨_, b, off, e, _⟩⟩ := Rows.cases h1
  · injection e with e1 e2 e3; omega
  · injection e with e1 e2 e3; exact ⟨b, off, e1⟩
/-- An element of it. -/
theorem GLs.at {w : World} {b off n cap : Nat} {L : List β} (h : GLs S w (.slice (some ⟨b, off, none⟩) n cap) L) {k : Nat} {s : β} (hk : L[k]? = some s) :
    ∃ d, S.rd w d s ∧ ∀ j u, (S.enc d)[j]? = some u → w.cell? ⟨b, off + k * S.sz + j, none⟩ = some u := by
  obtain ⟨ds, h1, h2, h3⟩ := h.ex
  obtain ⟨d, hd, hr⟩ := h3 k s hk
  exact ⟨d, hr, fun j u hj => Rows.get h1 hd hj⟩
theorem GLs.nil (w : World) (ao : Option Addr) (c : Nat) (hc : c ≤ 9223372036854775807) : GLs S w (.slice ao 0 c) [] := ⟨[], Rows.nil w ao c hc _ _, rfl, fun k s h => by simp at h⟩
/-- The cells read as the list; what the elements hold lies apart from the row, between blocks B and U. -/
def GRel (S : Sh δ β) (w : World) (B U : Nat) (v : Value) (ds : List δ) (L : List β) : Prop := ds.length = L.length ∧ ∀ (k : Nat) (s : β), L[k]? = some s → ∃ d : δ, ds[k]? = some d ∧ S.rd w d s ∧ ∀ u ∈ S.subs d, Apart u v ∧ ∀ g, u.ownBlock = some g → B ≤ g ∧ g < U
theorem GRel.far {w w' : World} {B U : Nat} {v : Value} {ds : List δ} {L : List β} {row : Option Nat} (h : GRel S w B U v ds L) (hg : w.grownBy w' row) (hr : ∀ g, B ≤ g → g < U → row ≠ some g) : GRel S w' B U v ds L := ⟨h.1, fun k s hk => by
  obtain ⟨d, a, b, c⟩ := h.2 k s hk
  exact ⟨d, a, S.keep hg (fun u hu g hg' => hr g ((c u hu).2 g hg').1 ((c u hu).2 g hg').2) b, c⟩⟩
theorem GRel.below {w w' : World} {B U : Nat} {v : Value} {ds : List δ} {L : List β} (h : GRel S w B U v ds L) (K : Below w.heap.size w w') : GRel S w' B U v ds L := h.far (below_grownBy K) (fun _ _ _ e => by cases e)
theorem GRel.mono {w : World} {B B' U U' : Nat} {v : Value} {ds : List δ} {L : List β} (h : GRel S w B U v ds L) (hB : B' ≤ B) (hU : U ≤ U') : GRel S w B' U' v ds L := ⟨h.1, fun k s hk => by
  obtain ⟨d, a, b, c⟩ := h.2 k s hk
  exact ⟨d, a, b, fun u hu => ⟨(c u hu).1, fun g hg => by have := (c u hu).2 g hg; omega⟩⟩⟩
theorem GRel.kp {w w' : World} {B U r : Nat} {v : Value} {ds : List δ} {L : List β} (h : GRel S w B U v ds L) (K : Kp r w w') (hr : r < B) : GRel S w' B U v ds L := h.far K.grownBy (fun g hB _ e => by injection e with e; omega)
theorem GRel.grown {w w' : World} {B U : Nat} {v v' : Value} {ds : List δ} {L : List β} (h : GRel S w B U v ds L) (hU : U ≤ w.heap.size) (hg : w.grownBy w' v.ownBlock) (hf : Frsh w v v') : GRel S w' B U v' ds L := ⟨h.1, fun k s hk => by
  obtain ⟨d, a, b, c⟩ := h.2 k s hk
  exact ⟨d, a, S.keep hg (fun u hu g hg' => (c u hu).1 g hg') b, fun u hu => ⟨(c u hu).1.frsh hf (fun g hg' => by have := (c u hu).2 g hg'; omega), (c u hu).2⟩⟩⟩
theorem GRel.take {w : World} {B U : Nat} {v : Value} {ds : List δ} {L : List β} (h : GRel S w B U v ds L) (n : Nat) : GRel S w B U v (ds.take n) (L.take n) := ⟨by simp [h.1], fun k s hk => by
  rw [List.getElem?_take] at hk ⊢
  split at hk
  · rename_i hlt
    rw [if_pos hlt]; exact h.2 k s hk
  · cases hk⟩
theorem GRel.drop {w : World} {B U : Nat} {v : Value} {ds : List δ} {L : List β} (h : GRel S w B U v ds L) (n : Nat) : GRel S w B U v (ds.drop n) (L.drop n) := ⟨by simp [h.1], fun k s hk => by
  rw [List.getElem?_drop] at hk ⊢
  exact h.2 _ s hk⟩
theorem GRel.append {w : World} {B U : Nat} {v : Value} {ds es : List δ} {L K : List β} (h : GRel S w B U v ds L) (h2 : GRel S w B U v es K) : GRel S w B U v (ds ++ es) (L ++ K) := ⟨by simp [h.1, h2.1], fun k s hk => by
  by_cases hlt : k < L.length
  · rw [List.getElem?_append_left hlt] at hk
    rw [List.getElem?_append_left (by rw [h.1]; exact hlt)]
    exact h.2 k s hk
  · rw [List.getElem?_append_right (by omega)] at hk
    rw [List.getElem?_append_right (by rw [h.1]; omega), h.1]
    exact h2.2 _ s hk⟩
theorem GRel.single {w : World} {B U : Nat} {v : Value} {d : δ} {s : β} (h : S.rd w d s) (hs : ∀ u ∈ S.subs d, Apart u v ∧ ∀ g, u.ownBlock = some g → B ≤ g ∧ g < U) : GRel S w B U v [d] [s] := ⟨rfl, fun k x hk => by
  cases k with
  | zero => simp at hk; subst hk; exact ⟨d, rfl, h, hs⟩
  | succ k => simp at hk⟩
theorem GRel.re {w : World} {B U : Nat} {v v' : Value} {ds : List δ} {L : List β} (h : GRel S w B U v ds L) (hv : ∀ u : Value, (∀ g, u.ownBlock = some g → B ≤ g ∧ g < U) → Apart u v') : GRel S w B U v' ds L := ⟨h.1, fun k s hk => by
  obtain ⟨d, a, b, c⟩ := h.2 k s hk
  exact ⟨d, a, b, fun u hu => ⟨hv u (c u hu).2, (c u hu).2⟩⟩⟩
theorem GRel.one {w : World} {B U : Nat} {v : Value} {ds : List δ} {L : List β} (h : GRel S w B U v ds L) : ∀ d ∈ ds, ∀ u ∈ S.enc d, u.oneCell' = true := fun d hd => by
  obtain ⟨k, hk, e⟩ := List.mem_iff_getElem.1 hd
  obtain ⟨s, hs⟩ := get_lt (L := L) (k := k) (by rw [← h.1]; exact hk)
  obtain ⟨d', a, b, -⟩ := h.2 k s hs
  rw [List.getElem?_eq_getElem hk, e] at a
  injection a with a
  subst a
  exact S.one b
theorem GLs.one {w : World} {ds : List δ} {L : List β} (hl : ds.length = L.length) (h : ∀ (k : Nat) (s : β), L[k]? = some s → ∃ d : δ, ds[k]? = some d ∧ S.rd w d s) : ∀ d ∈ ds, ∀ u ∈ S.enc d, u.oneCell' = true := fun d hd => by
  obtain ⟨k, hk, e⟩ := List.mem_iff_getElem.1 hd
  obtain ⟨s, hs⟩ := get_lt (L := L) (k := k) (by rw [← hl]; exact hk)
  obtain ⟨d', a, b⟩ := h k s hs
  rw [List.getElem?_eq_getElem hk, e] at a
  injection a with a
  subst a
  exact S.one b
/-- One's own growing row, all that it holds from block B on. -/
def GOwn (S : Sh δ β) (E : TypeId) (w : World) (B : Nat) (v : Value) (L : List β) : Prop := ∃ ds, Own E w B v S.sz S.enc ds ∧ GRel S w B w.heap.size v ds L
theorem GOwn.gls {E : TypeId} {w : World} {B : Nat} {v : Value} {L : List β} (h : GOwn S E w B v L) : GLs S w v L := by
  obtain ⟨ds, h1, h2⟩ := h
  exact ⟨ds, h1.rows S.len, h2.1, fun k s hk => by obtain ⟨d, a, b, -⟩ := h2.2 k s hk; exact ⟨d, a, b⟩⟩
theorem GOwn.below {E : TypeId} {w w' : World} {B : Nat} {v : Value} {L : List β} (h : GOwn S E w B v L) (K : Below w.heap.size w w') : GOwn S E w' B v L := by
  obtain ⟨ds, h1, h2⟩ := h
  exact ⟨ds, h1.below K, (h2.below K).mono (Nat.le_refl _) K.size⟩
theorem GOwn.kp {E : TypeId} {w w' : World} {B r : Nat} {v : Value} {L : List β} (h : GOwn S E w B v L) (K : Kp r w w') (hr : r < B) : GOwn S E w' B v L := by
  obtain ⟨ds, h1, h2⟩ := h
  exact ⟨ds, h1.kp K hr, (h2.kp K hr).mono (Nat.le_refl _) K.size⟩
theorem GOwn.nil (E : TypeId) (w : World) (B : Nat) : GOwn S E w B (.slice none 0 0) [] := ⟨[], Own.nil _ _ _ _ _, rfl, fun k s h => by simp at h⟩
theorem GOwn.made (E : TypeId) (w : World) (B : Nat) (hB : B ≤ w.heap.size) : GOwn S E (w.alloc (.cells #[] E)) B (.slice (some ⟨w.heap.size, 0, none⟩) 0 0) [] := ⟨[], Own.made _ _ _ _ _ hB, rfl, fun k s h => by simp at h⟩
theorem GOwn.base {E : TypeId} {w : World} {B B' : Nat} {v : Value} {L : List β} (h : GOwn S E w B' v L) (hB : B ≤ B') : GOwn S E w B v L := by
  obtain ⟨ds, h1, h2⟩ := h
  exact ⟨ds, h1.base hB, h2.mono hB (Nat.le_refl _)⟩
theorem GOwn.alloc {E : TypeId} {w : World} {B : Nat} {v : Value} {L : List β} (h : GOwn S E w B v L) (o : Obj) : GOwn S E (w.alloc o) B v L := h.below ((Below.refl _ _).alloc (Nat.le_refl _) _)
theorem GOwn.drew {E : TypeId} {w : World} {B : Nat} {v : Value} {L : List β} (h : GOwn S E w B v L) : GOwn S E w.drew B v L := h.below (Below.refl _ _).drew
theorem GOwn.set {E : TypeId} {w : World} {B : Nat} {v : Value} {L : List β} (h : GOwn S E w B v L) {a : Addr} (ha : a.block < B) (u : Value) : GOwn S E (w.setCell a u) B v L := by
  obtain ⟨ds, h1, h2⟩ := h
  exact ⟨ds, h1.set ha u, by simp only [World.size_setCell]; exact h2.far (grown_setC w a u) (fun g hB _ e => by injection e with e; omega)⟩
theorem GOwn.sl {E : TypeId} {w : World} {B : Nat} {v : Value} {L : List β} (h : GOwn S E w B v L) : ∃ ao cap, v = .slice ao L.length cap := by
  obtain ⟨ds, h1, h2⟩ := h
  obtain ⟨ao, cap, e⟩ := h1.sl
  exact ⟨ao, cap, by rw [← h2.1]; exact e⟩
theorem GOwn.lt {E : TypeId} {w : World} {B : Nat} {v : Value} {L : List β} (h : GOwn S E w B v L) : ∀ g, v.ownBlock = some g → g < w.heap.size := by
  obtain ⟨ds, h1, h2⟩ := h; exact h1.lt
theorem GOwn.ge {E : TypeId} {w : World} {B : Nat} {v : Value} {L : List β} (h : GOwn S E w B v L) : ∀ g, v.ownBlock = some g → B ≤ g := by
  obtain ⟨ds, h1, h2⟩ := h; exact h1.ge
/-- What an append of one leaves. -/
theorem GRel.snoc {w0 w w' : World} {B U : Nat} {v v' : Value} {ds : List δ} {L : List β} {d : δ} {s : β} (h : GRel S w0 B U v ds L) (hU : U ≤ w0.heap.size) (K : Below w0.heap.size w0 w) (hg : w.grownBy w' v.ownBlock) (hf : Frsh w v v') (hd : S.rd w d s) (hs : ∀ u ∈ S.subs d, Apart u v ∧ ∀ g, u.ownBlock = some g → B ≤ g ∧ g < w.heap.size) :
    GRel S w' B w'.heap.size v' (ds ++ [d]) (L ++ [s]) :=
  (((h.below K).mono (Nat.le_refl _) (Nat.le_trans hU K.size)).append (GRel.single hd hs)).grown (Nat.le_refl _) hg hf |>.mono (Nat.le_refl _) hg.size
/-- What an append of another row leaves, whose elements hold what lies behind the row's own block. -/
theorem GRel.apps {w w' : World} {B B2 U U2 : Nat} {v v' v2 : Value} {ds es : List δ} {L K : List β} (h : GRel S w B U v ds L) (h2 : GRel S w B2 U2 v2 es K) (hB : B ≤ B2) (hU : U ≤ w.heap.size) (hU2 : U2 ≤ w.heap.size) (hg : w.grownBy w' v.ownBlock) (hf : Frsh w v v') (hv : ∀ g, v.ownBlock = some g → g < B2 ∨ U2 ≤ g) : GRel S w' B w'.heap.size v' (ds ++ es) (L ++ K) :=
  ((h.grown hU hg hf).mono (Nat.le_refl _) (Nat.le_trans hU hg.size)).append ((((h2.re (v' := v) (fun u hu g h1 h3 => by have := hu g h1; have := hv g h3; omega)).grown hU2 hg hf).mono hB (Nat.le_trans hU2 hg.size)))
end
end Go.Proofs.Ytjkfnjjkjhggfaa
