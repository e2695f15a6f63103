/- One's own blocks, kept through calls: plain facts on worlds. -/
import Derived.Test.YtgegmampnpgcaaaDoorB1
set_option linter.unusedSimpArgs false
set_option linter.unusedVariables false
namespace Go.Proofs.YtgegmampnpgcaaaDoor
open Go.RowKit

/-- From offset o on block b holds these values, and may be written. -/
def At (w : World) (b : Nat) : Nat → List Value → Prop
  | _, [] => True
  | o, v :: vs => w.cell? ⟨b, o, none⟩ = some v ∧ w.frozen? ⟨b, o, none⟩ = false ∧ At w b (o + 1) vs

theorem At.move {w w' : World} {b : Nat} (hc : ∀ o v, w.cell? ⟨b, o, none⟩ = some v → w'.cell? ⟨b, o, none⟩ = some v) (hf : ∀ o v, w.cell? ⟨b, o, none⟩ = some v → w'.frozen? ⟨b, o, none⟩ = w.frozen? ⟨b, o, none⟩) :
    ∀ (vs : List Value) (o : Nat), At w b o vs → At w' b o vs
  | [], _, _ => trivial
  | _ :: vs, o, ⟨h1, h2, h3⟩ => ⟨hc o _ h1, (hf o _ h1).trans h2, At.move hc hf vs (o + 1) h3⟩

/-- The state of a function's own memory: what lies in each of its blocks; all older memory but the reader's is as it was. -/
structure Fr (r : Nat) (W w : World) (L : List (Nat × List Value)) : Prop where
  kp : Kp r W w
  own : ∀ p ∈ L, At w p.1 0 p.2 ∧ W.heap.size ≤ p.1 ∧ p.1 ≠ r ∧ p.1 < w.heap.size

theorem Fr.start (r : Nat) (w : World) : Fr r w w [] := ⟨Kp.refl _ _, fun _ h => by cases h⟩
theorem Fr.call {r : Nat} {W w w' : World} {L : List (Nat × List Value)} (h : Fr r W w L) (K : Kp r w w') : Fr r W w' L :=
  ⟨h.kp.trans K, fun p hp => by
    obtain ⟨h1, h2, h3, h4⟩ := h.own p hp
    exact ⟨At.move (fun o v hv => K.cell hv h3) (fun o v hv => K.frozen (World.block_lt_of_cell? w _ hv) h3) _ _ h1, h2, h3, Nat.lt_of_lt_of_le h4 K.size⟩⟩
theorem Fr.below {r : Nat} {W w w' : World} {L : List (Nat × List Value)} (h : Fr r W w L) (K : Below w.heap.size w w') : Fr r W w' L :=
  h.call ((Kp.refl r w).of_below K)
theorem Fr.drew {r : Nat} {W w : World} {L : List (Nat × List Value)} (h : Fr r W w L) : Fr r W w.drew L := h.call (Kp.refl r w).drew
theorem Fr.drewN {r n : Nat} {W w : World} {L : List (Nat × List Value)} (h : Fr r W w L) : Fr r W (w.drewN n) L := h.call (Kp.refl r w).drewN
theorem Fr.other {r : Nat} {W w : World} {L : List (Nat × List Value)} (h : Fr r W w L) (o : Obj) : Fr r W (w.alloc o) L := h.call ((Kp.refl r w).alloc o)
theorem At.new (w : World) (T : TypeId) (cs : Array Value) : ∀ (vs : List Value) (o : Nat), (∀ i, i < vs.length → cs[o + i]? = vs[i]?) → At (w.alloc (.cells cs T)) w.heap.size o vs
  | [], _, _ => trivial
  | v :: vs, o, h => by
    refine ⟨?_, by simp, At.new w T cs vs (o + 1) fun i hi => ?_⟩
    · have := h 0 (by simp); simpa using this
    · have := h (i + 1) (by simpa using hi)
      rw [show o + 1 + i = o + (i + 1) by omega]; exact this
theorem Fr.alloc {r : Nat} {W w : World} {L : List (Nat × List Value)} (h : Fr r W w L) (vs : List Value) (T : TypeId) (hr : r < w.heap.size) : Fr r W (w.alloc (.cells vs.toArray T)) ((w.heap.size, vs) :: L) :=
  ⟨(h.other _).kp, fun p hp => by
    rcases List.mem_cons.1 hp with rfl | hp
    · exact ⟨At.new _ _ _ _ _ (fun i hi => by simp), h.kp.size, by dsimp only; omega, by simp⟩
    · exact (h.other _).own p hp⟩
theorem Fr.alloc' {r : Nat} {W w : World} {L : List (Nat × List Value)} (h : Fr r W w L) (vs : List Value) (T : TypeId) (hr : w.heap.size ≠ r) : Fr r W (w.alloc (.cells vs.toArray T)) ((w.heap.size, vs) :: L) :=
  ⟨(h.other _).kp, fun p hp => by
    rcases List.mem_cons.1 hp with rfl | hp
    · exact ⟨At.new _ _ _ _ _ (fun i hi => by simp), h.kp.size, hr, by simp⟩
    · exact (h.other _).own p hp⟩
theorem At.setLow {w : World} {b i : Nat} {u : Value} : ∀ (vs : List Value) (o : Nat), i < o → At w b o vs → At (w.setCell ⟨b, i, none⟩ u) b o vs
  | [], _, _, _ => trivial
  | _ :: vs, o, hi, ⟨h1, h2, h3⟩ => ⟨(World.cell?_setCell_other _ _ _ _ (by intro e; injection e; omega)).trans h1, (World.frozen?_setCell _ _ _ _).trans h2, At.setLow vs (o + 1) (by omega) h3⟩
/-- The block at the head of the list is written. -/
theorem At.set {w : World} {b : Nat} {u : Value} : ∀ (vs : List Value) (o i : Nat), At w b o vs → i < vs.length → At (w.setCell ⟨b, o + i, none⟩ u) b o (vs.set i u)
  | [], _, _, _, hi => by simp at hi
  | v :: vs, o, 0, ⟨h1, h2, h3⟩, _ => ⟨World.cell?_setCell_same _ _ _ h1, (World.frozen?_setCell _ _ _ _).trans h2, At.setLow vs (o + 1) (by omega) h3⟩
  | v :: vs, o, i + 1, ⟨h1, h2, h3⟩, hi => by
    have ih := At.set (u := u) vs (o + 1) i h3 (by simpa using hi)
    rw [show o + 1 + i = o + (i + 1) by omega] at ih
    exact ⟨(World.cell?_setCell_other _ _ _ _ (by simp)).trans h1, (World.frozen?_setCell _ _ _ _).trans h2, ih⟩
theorem Fr.setAway {r : Nat} {W w : World} {L : List (Nat × List Value)} (h : Fr r W w L) (p : Addr) (u : Value) (hW : W.heap.size ≤ p.block) (hp : ∀ q ∈ L, q.1 ≠ p.block) : Fr r W (w.setCell p u) L :=
  ⟨h.kp.setCell (Or.inl hW) u, fun q hq => by
    obtain ⟨h1, h2, h3, h4⟩ := h.own q hq
    refine ⟨At.move (fun o v hv => (World.cell?_setCell_other _ _ _ _ (fun e => hp q hq (by rw [e]))).trans hv) (fun o v _ => World.frozen?_setCell _ _ _ _) _ _ h1, h2, h3, by simpa using h4⟩⟩
theorem Fr.set {r b : Nat} {W w : World} {vs : List Value} {L : List (Nat × List Value)} (h : Fr r W w ((b, vs) :: L)) (i : Nat) (u : Value) (hi : i < vs.length) (hp : ∀ q ∈ L, q.1 ≠ b) : Fr r W (w.setCell ⟨b, i, none⟩ u) ((b, vs.set i u) :: L) := by
  obtain ⟨h1, h2, h3, h4⟩ := h.own (b, vs) (by simp)
  have hL : Fr r W w L := ⟨h.kp, fun p hp => h.own p (by simp [hp])⟩
  have hS := hL.setAway ⟨b, i, none⟩ u h2 hp
  refine ⟨hS.kp, fun p hp' => ?_⟩
  rcases List.mem_cons.1 hp' with rfl | hp'
  · have := At.set (u := u) vs 0 i h1 hi
    simp only [Nat.zero_add] at this
    exact ⟨this, h2, h3, by simpa using h4⟩
  · exact hS.own p hp'
/-- The blocks in another order, or fewer of them. -/
theorem Fr.sub {r : Nat} {W w : World} {L L' : List (Nat × List Value)} (h : Fr r W w L) (hs : ∀ p ∈ L', p ∈ L) : Fr r W w L' := ⟨h.kp, fun p hp => h.own p (hs p hp)⟩
theorem Fr.lay1 {r b : Nat} {W w : World} {vs : List Value} {L : List (Nat × List Value)} (h : Fr r W w ((b, vs) :: L)) : At w b 0 vs ∧ b < w.heap.size + (if vs = [] then b + 1 else 0) := by
  have := (h.own (b, vs) (by simp)).1
  refine ⟨this, ?_⟩
  cases vs with
  | nil => simp; omega
  | cons v vs => have := World.block_lt_of_cell? w _ this.1; simp; exact this
theorem Fr.rest {r b : Nat} {W w : World} {vs : List Value} {L : List (Nat × List Value)} (h : Fr r W w ((b, vs) :: L)) : Fr r W w L := h.sub fun p hp => by simp [hp]

theorem Kp.rule {r : Nat} {w w' : World} (h : Kp r w w') : (∀ b o, b < w.heap.size → b ≠ r → w'.cell? ⟨b, o, none⟩ = w.cell? ⟨b, o, none⟩) ∧ (∀ b o, b < w.heap.size → b ≠ r → w'.frozen? ⟨b, o, none⟩ = w.frozen? ⟨b, o, none⟩) :=
  ⟨fun b o hb hr => World.cell?_of_block (w := w) (h.block b hb hr), fun b o hb hr => h.frozen (a := ⟨b, o, none⟩) hb hr⟩
/-- The same where no reader is at hand: all older memory is as it was. -/
structure Fb (W w : World) (L : List (Nat × List Value)) : Prop where
  kp : Below W.heap.size W w
  own : ∀ p ∈ L, At w p.1 0 p.2 ∧ W.heap.size ≤ p.1 ∧ p.1 < w.heap.size
theorem Fb.start (w : World) : Fb w w [] := ⟨Below.refl _ _, fun _ h => by cases h⟩
theorem Fb.below {W w w' : World} {L : List (Nat × List Value)} (h : Fb W w L) (K : Below w.heap.size w w') : Fb W w' L :=
  ⟨h.kp.trans (K.mono h.kp.size), fun p hp => by
    obtain ⟨h1, h2, h3⟩ := h.own p hp
    exact ⟨At.move (fun o v hv => (K.cell (World.block_lt_of_cell? w _ hv)).trans hv) (fun o v hv => K.frozen (World.block_lt_of_cell? w _ hv)) _ _ h1, h2, Nat.lt_of_lt_of_le h3 K.size⟩⟩
theorem Fb.drew {W w : World} {L : List (Nat × List Value)} (h : Fb W w L) : Fb W w.drew L := h.below (Below.refl _ _).drew
theorem Fb.drewN {n : Nat} {W w : World} {L : List (Nat × List Value)} (h : Fb W w L) : Fb W (w.drewN n) L := h.below ⟨rfl, rfl, rfl, Nat.le_refl _, fun _ _ => rfl⟩
theorem Fb.other {W w : World} {L : List (Nat × List Value)} (h : Fb W w L) (o : Obj) : Fb W (w.alloc o) L := h.below ((Below.refl _ _).alloc (Nat.le_refl _) o)
theorem Fb.alloc {W w : World} {L : List (Nat × List Value)} (h : Fb W w L) (vs : List Value) (T : TypeId) : Fb W (w.alloc (.cells vs.toArray T)) ((w.heap.size, vs) :: L) :=
  ⟨(h.other _).kp, fun p hp => by
    rcases List.mem_cons.1 hp with rfl | hp
    · exact ⟨At.new _ _ _ _ _ (fun i hi => by simp), h.kp.size, by simp⟩
    · exact (h.other _).own p hp⟩
theorem Fb.setAway {W w : World} {L : List (Nat × List Value)} (h : Fb W w L) (p : Addr) (u : Value) (hW : W.heap.size ≤ p.block) (hp : ∀ q ∈ L, q.1 ≠ p.block) : Fb W (w.setCell p u) L :=
  ⟨h.kp.setCell hW u, fun q hq => by
    obtain ⟨h1, h2, h3⟩ := h.own q hq
    refine ⟨At.move (fun o v hv => (World.cell?_setCell_other _ _ _ _ (fun e => hp q hq (by rw [e]))).trans hv) (fun o v _ => World.frozen?_setCell _ _ _ _) _ _ h1, h2, by simpa using h3⟩⟩
theorem Fb.set {b : Nat} {W w : World} {vs : List Value} {L : List (Nat × List Value)} (h : Fb W w ((b, vs) :: L)) (i : Nat) (u : Value) (hi : i < vs.length) (hp : ∀ q ∈ L, q.1 ≠ b) : Fb W (w.setCell ⟨b, i, none⟩ u) ((b, vs.set i u) :: L) := by
  obtain ⟨h1, h2, h3⟩ := h.own (b, vs) (by simp)
  have hL : Fb W w L := ⟨h.kp, fun p hp => h.own p (by simp [hp])⟩
  have hS := hL.setAway ⟨b, i, none⟩ u h2 hp
  refine ⟨hS.kp, fun p hp' => ?_⟩
  rcases List.mem_cons.1 hp' with rfl | hp'
  · have := At.set (u := u) vs 0 i h1 hi
    simp only [Nat.zero_add] at this
    exact ⟨this, h2, by simpa using h3⟩
  · exact hS.own p hp'
theorem Fb.sub {W w : World} {L L' : List (Nat × List Value)} (h : Fb W w L) (hs : ∀ p ∈ L', p ∈ L) : Fb W w L' := ⟨h.kp, fun p hp => h.own p (hs p hp)⟩
theorem Fb.rest {b : Nat} {W w : World} {vs : List Value} {L : List (Nat × List Value)} (h : Fb W w ((b, vs) :: L)) : Fb W w L := h.sub fun p hp => by simp [hp]
theorem Fb.alloc_1 {W w : World} {L : List (Nat × List Value)} {v0 : Value} {T : TypeId} (h : Fb W w L) : Fb W (w.alloc (.cells #[v0] T)) ((w.heap.size, [v0]) :: L) := h.alloc [v0] T
theorem Fb.alloc_2 {W w : World} {L : List (Nat × List Value)} {v0 v1 : Value} {T : TypeId} (h : Fb W w L) : Fb W (w.alloc (.cells #[v0, v1] T)) ((w.heap.size, [v0, v1]) :: L) := h.alloc [v0, v1] T
theorem Fb.alloc_3 {W w : World} {L : List (Nat × List Value)} {v0 v1 v2 : Value} {T : TypeId} (h : Fb W w L) : Fb W (w.alloc (.cells #[v0, v1, v2] T)) ((w.heap.size, [v0, v1, v2]) :: L) := h.alloc [v0, v1, v2] T
theorem Fb.alloc_4 {W w : World} {L : List (Nat × List Value)} {v0 v1 v2 v3 : Value} {T : TypeId} (h : Fb W w L) : Fb W (w.alloc (.cells #[v0, v1, v2, v3] T)) ((w.heap.size, [v0, v1, v2, v3]) :: L) := h.alloc [v0, v1, v2, v3] T
theorem Fb.alloc_5 {W w : World} {L : List (Nat × List Value)} {v0 v1 v2 v3 v4 : Value} {T : TypeId} (h : Fb W w L) : Fb W (w.alloc (.cells #[v0, v1, v2, v3, v4] T)) ((w.heap.size, [v0, v1, v2, v3, v4]) :: L) := h.alloc [v0, v1, v2, v3, v4] T
theorem Fb.alloc_8 {W w : World} {L : List (Nat × List Value)} {v0 v1 v2 v3 v4 v5 v6 v7 : Value} {T : TypeId} (h : Fb W w L) : Fb W (w.alloc (.cells #[v0, v1, v2, v3, v4, v5, v6, v7] T)) ((w.heap.size, [v0, v1, v2, v3, v4, v5, v6, v7]) :: L) := h.alloc [v0, v1, v2, v3, v4, v5, v6, v7] T
theorem Fr.alloc_1 {r : Nat} {W w : World} {L : List (Nat × List Value)} {v0 : Value} {T : TypeId} (h : Fr r W w L) (hr : w.heap.size ≠ r) : Fr r W (w.alloc (.cells #[v0] T)) ((w.heap.size, [v0]) :: L) := h.alloc' [v0] T hr
theorem Fr.alloc_2 {r : Nat} {W w : World} {L : List (Nat × List Value)} {v0 v1 : Value} {T : TypeId} (h : Fr r W w L) (hr : w.heap.size ≠ r) : Fr r W (w.alloc (.cells #[v0, v1] T)) ((w.heap.size, [v0, v1]) :: L) := h.alloc' [v0, v1] T hr
theorem Fr.alloc_3 {r : Nat} {W w : World} {L : List (Nat × List Value)} {v0 v1 v2 : Value} {T : TypeId} (h : Fr r W w L) (hr : w.heap.size ≠ r) : Fr r W (w.alloc (.cells #[v0, v1, v2] T)) ((w.heap.size, [v0, v1, v2]) :: L) := h.alloc' [v0, v1, v2] T hr
theorem Fr.alloc_4 {r : Nat} {W w : World} {L : List (Nat × List Value)} {v0 v1 v2 v3 : Value} {T : TypeId} (h : Fr r W w L) (hr : w.heap.size ≠ r) : Fr r W (w.alloc (.cells #[v0, v1, v2, v3] T)) ((w.heap.size, [v0, v1, v2, v3]) :: L) := h.alloc' [v0, v1, v2, v3] T hr
theorem Fr.alloc_5 {r : Nat} {W w : World} {L : List (Nat × List Value)} {v0 v1 v2 v3 v4 : Value} {T : TypeId} (h : Fr r W w L) (hr : w.heap.size ≠ r) : Fr r W (w.alloc (.cells #[v0, v1, v2, v3, v4] T)) ((w.heap.size, [v0, v1, v2, v3, v4]) :: L) := h.alloc' [v0, v1, v2, v3, v4] T hr
theorem Fr.alloc_8 {r : Nat} {W w : World} {L : List (Nat × List Value)} {v0 v1 v2 v3 v4 v5 v6 v7 : Value} {T : TypeId} (h : Fr r W w L) (hr : w.heap.size ≠ r) : Fr r W (w.alloc (.cells #[v0, v1, v2, v3, v4, v5, v6, v7] T)) ((w.heap.size, [v0, v1, v2, v3, v4, v5, v6, v7]) :: L) := h.alloc' [v0, v1, v2, v3, v4, v5, v6, v7] T hr
theorem Fb.cl {W w : World} {L : List (Nat × List Value)} (h : Fb W w L) (x : Cl w.heap.size w) : Fb W x.W L := h.below x.below
theorem Given.below {w w' : World} {v : Value} (h : Given w v) (hb : Below w.heap.size w w') : Given w' v := by
  obtain ⟨ao, n, cap, e, h1, h2, h3⟩ := h.has
  refine ⟨ao, n, cap, e, h1, h2, fun hn => ?_⟩
  obtain ⟨b, off, zs, e1, hlt, hc⟩ := h3 hn
  exact ⟨b, off, zs, e1, Nat.lt_of_lt_of_le hlt hb.size, fun i hi => ⟨(hb.cell (by exact hlt)).trans (hc i hi).1, (hc i hi).2⟩⟩
theorem Given.alloc {w : World} {v : Value} (h : Given w v) (o : Obj) : Given (w.alloc o) v := h.below ((Below.refl _ _).alloc (Nat.le_refl _) _)
end Go.Proofs.YtgegmampnpgcaaaDoor
