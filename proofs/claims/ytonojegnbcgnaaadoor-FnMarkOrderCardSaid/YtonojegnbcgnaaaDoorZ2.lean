/- One's own blocks, kept through calls: plain facts on worlds. Rows of equal cells that can be read; searches through lists. Slices of one's own that grow; what a change of other blocks leaves. -/
import Derived.Test.YtonojegnbcgnaaaDoorZ1
import Derived.Laws.AppendOwn
set_option linter.unusedSimpArgs false
set_option linter.unusedVariables false
namespace Go.Proofs.YtonojegnbcgnaaaDoor
open Go.RowKit

/-- From offset o on block b holds these values, and may be written. -/
def At (w : World) (b : Nat) : Nat → List Value → Prop
  | _, [] => True
  | o, v :: vs => w.cell? ⟨b, o, none⟩ = some v ∧ w.frozen? ⟨b, o, none⟩ = false ∧ At w b (o + 1) vs

theorem At.move {w w' : World} {b : Nat} (hc : ∀ o v, w.cell? ⟨b, o, none⟩ = some v → w'.cell? ⟨b, o, none⟩ = some v) (hf : ∀ o v, w.cell? ⟨b, o, none⟩ = some v → w'.frozen? ⟨b, o, none⟩ = w.frozen? ⟨b, o, none⟩) :
    ∀ (vs : List Value) (o : Nat), At w b o vs → At w' b o vs
  | [], _, _ => trivial
  | _ :: vs, o, ⟨h1, h2, h3⟩ => ⟨hc o _ h1, (hf o _ h1).trans h2, At.move hc hf vs (o + 1) h3⟩

/-- The state of a function's own memory: what lies in each of its blocks; all older memory but the reader's is as it was. -/
structure Fr (r : Nat) (W w : World) (L : List (Nat × List Value)) : Prop where
  kp : Kp r W w
  own : ∀ p ∈ L, At w p.1 0 p.2 ∧ W.heap.size ≤ p.1 ∧ p.1 ≠ r ∧ p.1 < w.heap.size

theorem Fr.start (r : Nat) (w : World) : Fr r w w [] := ⟨Kp.refl _ _, fun _ h => by cases h⟩
theorem Fr.call {r : Nat} {W w w' : World} {L : List (Nat × List Value)} (h : Fr r W w L) (K : Kp r w w') : Fr r W w' L :=
  ⟨h.kp.trans K, fun p hp => by
    obtain ⟨h1, h2, h3, h4⟩ := h.own p hp
    exact ⟨At.move (fun o v hv => K.cell hv h3) (fun o v hv => K.frozen (World.block_lt_of_cell? w _ hv) h3) _ _ h1, h2, h3, Nat.lt_of_lt_of_le h4 K.size⟩⟩
theorem Fr.below {r : Nat} {W w w' : World} {L : List (Nat × List Value)} (h : Fr r W w L) (K : Below w.heap.size w w') : Fr r W w' L :=
  h.call ((Kp.refl r w).of_below K)
theorem Fr.drew {r : Nat} {W w : World} {L : List (Nat × List Value)} (h : Fr r W w L) : Fr r W w.drew L := h.call (Kp.refl r w).drew
theorem Fr.drewN {r n : Nat} {W w : World} {L : List (Nat × List Value)} (h : Fr r W w L) : Fr r W (w.drewN n) L := h.call (Kp.refl r w).drewN
theorem Fr.other {r : Nat} {W w : World} {L : List (Nat × List Value)} (h : Fr r W w L) (o : Obj) : Fr r W (w.alloc o) L := h.call ((Kp.refl r w).alloc o)
theorem At.new (w : World) (T : TypeId) (cs : Array Value) : ∀ (vs : List Value) (o : Nat), (∀ i, i < vs.length → cs[o + i]? = vs[i]?) → At (w.alloc (.cells cs T)) w.heap.size o vs
  | [], _, _ => trivial
  | v :: vs, o, h => by
    refine ⟨?_, by simp, At.new w T cs vs (o + 1) fun i hi => ?_⟩
    · have := h 0 (by simp); simpa using this
    · have := h (i + 1) (by simpa using hi)
      rw [show o + 1 + i = o + (i + 1) by omega]; exact this
theorem Fr.alloc {r : Nat} {W w : World} {L : List (Nat × List Value)} (h : Fr r W w L) (vs : List Value) (T : TypeId) (hr : r < w.heap.size) : Fr r W (w.alloc (.cells vs.toArray T)) ((w.heap.size, vs) :: L) :=
  ⟨(h.other _).kp, fun p hp => by
    rcases List.mem_cons.1 hp with rfl | hp
    · exact ⟨At.new _ _ _ _ _ (fun i hi => by simp), h.kp.size, by dsimp only; omega, by simp⟩
    · exact (h.other _).own p hp⟩
theorem Fr.alloc' {r : Nat} {W w : World} {L : List (Nat × List Value)} (h : Fr r W w L) (vs : List Value) (T : TypeId) (hr : w.heap.size ≠ r) : Fr r W (w.alloc (.cells vs.toArray T)) ((w.heap.size, vs) :: L) :=
  ⟨(h.other _).kp, fun p hp => by
    rcases List.mem_cons.1 hp with rfl | hp
    · exact ⟨At.new _ _ _ _ _ (fun i hi => by simp), h.kp.size, hr, by simp⟩
    · exact (h.other _).own p hp⟩
theorem At.setLow {w : World} {b i : Nat} {u : Value} : ∀ (vs : List Value) (o : Nat), i < o → At w b o vs → At (w.setCell ⟨b, i, none⟩ u) b o vs
  | [], _, _, _ => trivial
  | _ :: vs, o, hi, ⟨h1, h2, h3⟩ => ⟨(World.cell?_setCell_other _ _ _ _ (by intro e; injection e; omega)).trans h1, (World.frozen?_setCell _ _ _ _).trans h2, At.setLow vs (o + 1) (by omega) h3⟩
/-- The block at the head of the list is written. -/
theorem At.set {w : World} {b : Nat} {u : Value} : ∀ (vs : List Value) (o i : Nat), At w b o vs → i < vs.length → At (w.setCell ⟨b, o + i, none⟩ u) b o (vs.set i u)
  | [], _, _, _, hi => by simp at hi
  | v :: vs, o, 0, ⟨h1, h2, h3⟩, _ => ⟨World.cell?_setCell_same _ _ _ h1, (World.frozen?_setCell _ _ _ _).trans h2, At.setLow vs (o + 1) (by omega) h3⟩
  | v :: vs, o, i + 1, ⟨h1, h2, h3⟩, hi => by
    have ih := At.set (u := u) vs (o + 1) i h3 (by simpa using hi)
    rw [show o + 1 + i = o + (i + 1) by omega] at ih
    exact ⟨(World.cell?_setCell_other _ _ _ _ (by simp)).trans h1, (World.frozen?_setCell _ _ _ _).trans h2, ih⟩
theorem Fr.setAway {r : Nat} {W w : World} {L : List (Nat × List Value)} (h : Fr r W w L) (p : Addr) (u : Value) (hW : W.heap.size ≤ p.block) (hp : ∀ q ∈ L, q.1 ≠ p.block) : Fr r W (w.setCell p u) L :=
  ⟨h.kp.setCell (Or.inl hW) u, fun q hq => by
    obtain ⟨h1, h2, h3, h4⟩ := h.own q hq
    refine ⟨At.move (fun o v hv => (World.cell?_setCell_other _ _ _ _ (fun e => hp q hq (by rw [e]))).trans hv) (fun o v _ => World.frozen?_setCell _ _ _ _) _ _ h1, h2, h3, by simpa using h4⟩⟩
theorem Fr.set {r b : Nat} {W w : World} {vs : List Value} {L : List (Nat × List Value)} (h : Fr r W w ((b, vs) :: L)) (i : Nat) (u : Value) (hi : i < vs.length) (hp : ∀ q ∈ L, q.1 ≠ b) : Fr r W (w.setCell ⟨b, i, none⟩ u) ((b, vs.set i u) :: L) := by
  obtain ⟨h1, h2, h3, h4⟩ := h.own (b, vs) (by simp)
  have hL : Fr r W w L := ⟨h.kp, fun p hp => h.own p (by simp [hp])⟩
  have hS := hL.setAway ⟨b, i, none⟩ u h2 hp
  refine ⟨hS.kp, fun p hp' => ?_⟩
  rcases List.mem_cons.1 hp' with rfl | hp'
  · have := At.set (u := u) vs 0 i h1 hi
    simp only [Nat.zero_add] at this
    exact ⟨this, h2, h3, by simpa using h4⟩
  · exact hS.own p hp'
/-- The blocks in another order, or fewer of them. -/
theorem Fr.sub {r : Nat} {W w : World} {L L' : List (Nat × List Value)} (h : Fr r W w L) (hs : ∀ p ∈ L', p ∈ L) : Fr r W w L' := ⟨h.kp, fun p hp => h.own p (hs p hp)⟩
theorem Fr.lay1 {r b : Nat} {W w : World} {vs : List Value} {L : List (Nat × List Value)} (h : Fr r W w ((b, vs) :: L)) : At w b 0 vs ∧ b < w.heap.size + (if vs = [] then b + 1 else 0) := by
  have := (h.own (b, vs) (by simp)).1
  refine ⟨this, ?_⟩
  cases vs with
  | nil => simp; omega
  | cons v vs => have := World.block_lt_of_cell? w _ this.1; simp; exact this
theorem Fr.rest {r b : Nat} {W w : World} {vs : List Value} {L : List (Nat × List Value)} (h : Fr r W w ((b, vs) :: L)) : Fr r W w L := h.sub fun p hp => by simp [hp]

theorem Kp.rule {r : Nat} {w w' : World} (h : Kp r w w') : (∀ b o, b < w.heap.size → b ≠ r → w'.cell? ⟨b, o, none⟩ = w.cell? ⟨b, o, none⟩) ∧ (∀ b o, b < w.heap.size → b ≠ r → w'.frozen? ⟨b, o, none⟩ = w.frozen? ⟨b, o, none⟩) :=
  ⟨fun b o hb hr => World.cell?_of_block (w := w) (h.block b hb hr), fun b o hb hr => h.frozen (a := ⟨b, o, none⟩) hb hr⟩
/-- The same where no reader is at hand: all older memory is as it was. -/
structure Fb (W w : World) (L : List (Nat × List Value)) : Prop where
  kp : Below W.heap.size W w
  own : ∀ p ∈ L, At w p.1 0 p.2 ∧ W.heap.size ≤ p.1 ∧ p.1 < w.heap.size
theorem Fb.start (w : World) : Fb w w [] := ⟨Below.refl _ _, fun _ h => by cases h⟩
theorem Fb.below {W w w' : World} {L : List (Nat × List Value)} (h : Fb W w L) (K : Below w.heap.size w w') : Fb W w' L :=
  ⟨h.kp.trans (K.mono h.kp.size), fun p hp => by
    obtain ⟨h1, h2, h3⟩ := h.own p hp
    exact ⟨At.move (fun o v hv => (K.cell (World.block_lt_of_cell? w _ hv)).trans hv) (fun o v hv => K.frozen (World.block_lt_of_cell? w _ hv)) _ _ h1, h2, Nat.lt_of_lt_of_le h3 K.size⟩⟩
theorem Fb.drew {W w : World} {L : List (Nat × List Value)} (h : Fb W w L) : Fb W w.drew L := h.below (Below.refl _ _).drew
theorem Fb.drewN {n : Nat} {W w : World} {L : List (Nat × List Value)} (h : Fb W w L) : Fb W (w.drewN n) L := h.below ⟨rfl, rfl, rfl, Nat.le_refl _, fun _ _ => rfl⟩
theorem Fb.other {W w : World} {L : List (Nat × List Value)} (h : Fb W w L) (o : Obj) : Fb W (w.alloc o) L := h.below ((Below.refl _ _).alloc (Nat.le_refl _) o)
theorem Fb.alloc {W w : World} {L : List (Nat × List Value)} (h : Fb W w L) (vs : List Value) (T : TypeId) : Fb W (w.alloc (.cells vs.toArray T)) ((w.heap.size, vs) :: L) :=
  ⟨(h.other _).kp, fun p hp => by
    rcases List.mem_cons.1 hp with rfl | hp
    · exact ⟨At.new _ _ _ _ _ (fun i hi => by simp), h.kp.size, by simp⟩
    · exact (h.other _).own p hp⟩
theorem Fb.setAway {W w : World} {L : List (Nat × List Value)} (h : Fb W w L) (p : Addr) (u : Value) (hW : W.heap.size ≤ p.block) (hp : ∀ q ∈ L, q.1 ≠ p.block) : Fb W (w.setCell p u) L :=
  ⟨h.kp.setCell hW u, fun q hq => by
    obtain ⟨h1, h2, h3⟩ := h.own q hq
    refine ⟨At.move (fun o v hv => (World.cell?_setCell_other _ _ _ _ (fun e => hp q hq (by rw [e]))).trans hv) (fun o v _ => World.frozen?_setCell _ _ _ _) _ _ h1, h2, by simpa using h3⟩⟩
theorem Fb.set {b : Nat} {W w : World} {vs : List Value} {L : List (Nat × List Value)} (h : Fb W w ((b, vs) :: L)) (i : Nat) (u : Value) (hi : i < vs.length) (hp : ∀ q ∈ L, q.1 ≠ b) : Fb W (w.setCell ⟨b, i, none⟩ u) ((b, vs.set i u) :: L) := by
  obtain ⟨h1, h2, h3⟩ := h.own (b, vs) (by simp)
  have hL : Fb W w L := ⟨h.kp, fun p hp => h.own p (by simp [hp])⟩
  have hS := hL.setAway ⟨b, i, none⟩ u h2 hp
  refine ⟨hS.kp, fun p hp' => ?_⟩
  rcases List.mem_cons.1 hp' with rfl | hp'
  · have := At.set (u := u) vs 0 i h1 hi
    simp only [Nat.zero_add] at this
    exact ⟨this, h2, by simpa using h3⟩
  · exact hS.own p hp'
theorem Fb.sub {W w : World} {L L' : List (Nat × List Value)} (h : Fb W w L) (hs : ∀ p ∈ L', p ∈ L) : Fb W w L' := ⟨h.kp, fun p hp => h.own p (hs p hp)⟩
theorem Fb.rest {b : Nat} {W w : World} {vs : List Value} {L : List (Nat × List Value)} (h : Fb W w ((b, vs) :: L)) : Fb W w L := h.sub fun p hp => by simp [hp]
theorem Fb.alloc_1 {W w : World} {L : List (Nat × List Value)} {v0 : Value} {T : TypeId} (h : Fb W w L) : Fb W (w.alloc (.cells #[v0] T)) ((w.heap.size, [v0]) :: L) := h.alloc [v0] T
theorem Fb.alloc_2 {W w : World} {L : List (Nat × List Value)} {v0 v1 : Value} {T : TypeId} (h : Fb W w L) : Fb W (w.alloc (.cells #[v0, v1] T)) ((w.heap.size, [v0, v1]) :: L) := h.alloc [v0, v1] T
theorem Fb.alloc_3 {W w : World} {L : List (Nat × List Value)} {v0 v1 v2 : Value} {T : TypeId} (h : Fb W w L) : Fb W (w.alloc (.cells #[v0, v1, v2] T)) ((w.heap.size, [v0, v1, v2]) :: L) := h.alloc [v0, v1, v2] T
theorem Fb.alloc_4 {W w : World} {L : List (Nat × List Value)} {v0 v1 v2 v3 : Value} {T : TypeId} (h : Fb W w L) : Fb W (w.alloc (.cells #[v0, v1, v2, v3] T)) ((w.heap.size, [v0, v1, v2, v3]) :: L) := h.alloc [v0, v1, v2, v3] T
theorem Fb.alloc_5 {W w : World} {L : List (Nat × List Value)} {v0 v1 v2 v3 v4 : Value} {T : TypeId} (h : Fb W w L) : Fb W (w.alloc (.cells #[v0, v1, v2, v3, v4] T)) ((w.heap.size, [v0, v1, v2, v3, v4]) :: L) := h.alloc [v0, v1, v2, v3, v4] T
theorem Fb.alloc_8 {W w : World} {L : List (Nat × List Value)} {v0 v1 v2 v3 v4 v5 v6 v7 : Value} {T : TypeId} (h : Fb W w L) : Fb W (w.alloc (.cells #[v0, v1, v2, v3, v4, v5, v6, v7] T)) ((w.heap.size, [v0, v1, v2, v3, v4, v5, v6, v7]) :: L) := h.alloc [v0, v1, v2, v3, v4, v5, v6, v7] T
theorem Fr.alloc_1 {r : Nat} {W w : World} {L : List (Nat × List Value)} {v0 : Value} {T : TypeId} (h : Fr r W w L) (hr : w.heap.size ≠ r) : Fr r W (w.alloc (.cells #[v0] T)) ((w.heap.size, [v0]) :: L) := h.alloc' [v0] T hr
theorem Fr.alloc_2 {r : Nat} {W w : World} {L : List (Nat × List Value)} {v0 v1 : Value} {T : TypeId} (h : Fr r W w L) (hr : w.heap.size ≠ r) : Fr r W (w.alloc (.cells #[v0, v1] T)) ((w.heap.size, [v0, v1]) :: L) := h.alloc' [v0, v1] T hr
theorem Fr.alloc_3 {r : Nat} {W w : World} {L : List (Nat × List Value)} {v0 v1 v2 : Value} {T : TypeId} (h : Fr r W w L) (hr : w.heap.size ≠ r) : Fr r W (w.alloc (.cells #[v0, v1, v2] T)) ((w.heap.size, [v0, v1, v2]) :: L) := h.alloc' [v0, v1, v2] T hr
theorem Fr.alloc_4 {r : Nat} {W w : World} {L : List (Nat × List Value)} {v0 v1 v2 v3 : Value} {T : TypeId} (h : Fr r W w L) (hr : w.heap.size ≠ r) : Fr r W (w.alloc (.cells #[v0, v1, v2, v3] T)) ((w.heap.size, [v0, v1, v2, v3]) :: L) := h.alloc' [v0, v1, v2, v3] T hr
theorem Fr.alloc_5 {r : Nat} {W w : World} {L : List (Nat × List Value)} {v0 v1 v2 v3 v4 : Value} {T : TypeId} (h : Fr r W w L) (hr : w.heap.size ≠ r) : Fr r W (w.alloc (.cells #[v0, v1, v2, v3, v4] T)) ((w.heap.size, [v0, v1, v2, v3, v4]) :: L) := h.alloc' [v0, v1, v2, v3, v4] T hr
theorem Fr.alloc_8 {r : Nat} {W w : World} {L : List (Nat × List Value)} {v0 v1 v2 v3 v4 v5 v6 v7 : Value} {T : TypeId} (h : Fr r W w L) (hr : w.heap.size ≠ r) : Fr r W (w.alloc (.cells #[v0, v1, v2, v3, v4, v5, v6, v7] T)) ((w.heap.size, [v0, v1, v2, v3, v4, v5, v6, v7]) :: L) := h.alloc' [v0, v1, v2, v3, v4, v5, v6, v7] T hr
theorem Fb.cl {W w : World} {L : List (Nat × List Value)} (h : Fb W w L) (x : Cl w.heap.size w) : Fb W x.W L := h.below x.below
theorem Given.below {w w' : World} {v : Value} (h : Given w v) (hb : Below w.heap.size w w') : Given w' v := by
  obtain ⟨ao, n, cap, e, h1, h2, h3⟩ := h.has
  refine ⟨ao, n, cap, e, h1, h2, fun hn => ?_⟩
  obtain ⟨b, off, zs, e1, hlt, hc⟩ := h3 hn
  exact ⟨b, off, zs, e1, Nat.lt_of_lt_of_le hlt hb.size, fun i hi => ⟨(hb.cell (by exact hlt)).trans (hc i hi).1, (hc i hi).2⟩⟩
theorem Given.alloc {w : World} {v : Value} (h : Given w v) (o : Obj) : Given (w.alloc o) v := h.below ((Below.refl _ _).alloc (Nat.le_refl _) _)
end Go.Proofs.YtonojegnbcgnaaaDoor
set_option linter.unusedSimpArgs false
set_option linter.unusedVariables false
namespace Go.Proofs.YtonojegnbcgnaaaDoor
open Go.RowKit

/-- The slice value v reads as the list L: each element lies in sz cells, which hold enc x. -/
structure Rows {α : Type} (w : World) (v : Value) (sz : Nat) (enc : α → List Value) (L : List α) : Prop where
  ex : ∃ ao cap, v = .slice ao L.length cap ∧ L.length ≤ cap ∧ cap ≤ 9223372036854775807 ∧ ∀ k x, L[k]? = some x → ∃ b off, ao = some ⟨b, off, none⟩ ∧ ∀ j u, (enc x)[j]? = some u → w.cell? ⟨b, off + k * sz + j, none⟩ = some u

theorem Rows.below {α : Type} {w w' : World} {v : Value} {sz : Nat} {enc : α → List Value} {L : List α} (h : Rows w v sz enc L) (hb : Below w.heap.size w w') : Rows w' v sz enc L := by
  obtain ⟨ao, cap, e, h1, h2, h3⟩ := h.ex
  refine ⟨ao, cap, e, h1, h2, fun k x hk => ?_⟩
  obtain ⟨b, off, e1, hc⟩ := h3 k x hk
  exact ⟨b, off, e1, fun j u hj => (hb.cell (World.block_lt_of_cell? w _ (hc j u hj))).trans (hc j u hj)⟩
theorem Rows.nil {α : Type} (w : World) (ao : Option Addr) (cap : Nat) (hc : cap ≤ 9223372036854775807) (sz : Nat) (enc : α → List Value) : Rows w (.slice ao 0 cap) sz enc [] :=
  ⟨ao, cap, rfl, Nat.zero_le _, hc, fun k x h => by simp at h⟩
/-- Either no element, or an address. -/
theorem Rows.cases {α : Type} {w : World} {v : Value} {sz : Nat} {enc : α → List Value} {L : List α} (h : Rows w v sz enc L) :
    ∃ n cap, Hid (L.length = n) ∧ n ≤ cap ∧ cap ≤ 9223372036854775807 ∧ ((n ≤ 0 ∧ ∃ ao, v = .slice ao n cap) ∨ (0 < n ∧ ∃ b off, v = .slice (some ⟨b, off, Option.none⟩) n cap ∧ Hid (∀ k x, L[k]? = some x → ∀ j u, (enc x)[j]? = some u → w.cell? ⟨b, off + k * sz + j, Option.none⟩ = some u))) := by
  obtain ⟨ao, cap, rfl, h1, h2, h3⟩ := h.ex
  refine ⟨L.length, cap, rfl, h1, h2, ?_⟩
  cases L with
  | nil => exact Or.inl ⟨Nat.le_refl _, ao, rfl⟩
  | cons y L =>
    obtain ⟨b, off, rfl, _⟩ := h3 0 y rfl
    refine Or.inr ⟨by simp, b, off, rfl, fun k x hk j u hj => ?_⟩
    obtain ⟨b', off', e, hc⟩ := h3 k x hk
    injection e with e; injection e with e1 e2; subst e1; subst e2
    exact hc j u hj
theorem Rows.len {α : Type} {w : World} {v : Value} {sz : Nat} {enc : α → List Value} {L : List α} (h : Rows w v sz enc L) : L.length ≤ 9223372036854775807 := by
  obtain ⟨ao, cap, rfl, h1, h2, h3⟩ := h.ex; omega
theorem Cl.old {w wr : World} {L : List (Nat × List Value)} (hF : Fb w wr L) (x : Cl wr.heap.size wr) {a : Addr} {v : Value} (h : w.cell? a = some v) : x.W.cell? a = some v :=
  ((hF.cl x).kp.cell (World.block_lt_of_cell? w a h)).trans h
theorem Fb.old {w wr : World} {L : List (Nat × List Value)} (hF : Fb w wr L) {a : Addr} {v : Value} (h : w.cell? a = some v) : wr.cell? a = some v :=
  (hF.kp.cell (World.block_lt_of_cell? w a h)).trans h
theorem Fr.old {r : Nat} {w wr : World} {L : List (Nat × List Value)} (hF : Fr r w wr L) {a : Addr} {v : Value} (h : w.cell? a = some v) (hr : a.block ≠ r) : wr.cell? a = some v :=
  hF.kp.cell h hr

theorem any_hit {α : Type} {p : α → Bool} {L : List α} {k : Nat} {x : α} (h : L[k]? = some x) (hp : p x = true) : L.any p = true :=
  List.any_eq_true.2 ⟨x, List.mem_of_getElem? h, hp⟩
theorem take_succ' {α : Type} {L : List α} {k : Nat} {x : α} (h : L[k]? = some x) : L.take (k + 1) = L.take k ++ [x] := by
  rw [List.take_add_one, h]; rfl
theorem any_step {α : Type} {p : α → Bool} {L : List α} {k : Nat} {x : α} (h0 : (L.take k).any p = false) (h : L[k]? = some x) (hp : p x = false) : (L.take (k + 1)).any p = false := by
  rw [take_succ' h, List.any_append, h0]; simp [hp]
theorem any_end {α : Type} {p : α → Bool} {L : List α} {k : Nat} (h0 : (L.take k).any p = false) (h : L.length ≤ k) : L.any p = false := by
  rwa [List.take_of_length_le h] at h0
theorem all_miss {α : Type} {p : α → Bool} {L : List α} {k : Nat} {x : α} (h : L[k]? = some x) (hp : p x = false) : L.all p = false := by
  rw [List.all_eq_false]; exact ⟨x, List.mem_of_getElem? h, by simp [hp]⟩
theorem all_step {α : Type} {p : α → Bool} {L : List α} {k : Nat} {x : α} (h0 : (L.take k).all p = true) (h : L[k]? = some x) (hp : p x = true) : (L.take (k + 1)).all p = true := by
  rw [take_succ' h, List.all_append, h0]; simp [hp]
theorem all_end {α : Type} {p : α → Bool} {L : List α} {k : Nat} (h0 : (L.take k).all p = true) (h : L.length ≤ k) : L.all p = true := by
  rwa [List.take_of_length_le h] at h0
theorem get_lt {α : Type} {L : List α} {k : Nat} (h : k < L.length) : ∃ x, L[k]? = some x := ⟨L[k], List.getElem?_eq_getElem h⟩
theorem get_of {α : Type} {L : List α} {k n : Nat} (hn : L.length = n) (h : k < n) : ∃ x, L[k]? = some x := get_lt (hn ▸ h)
end Go.Proofs.YtonojegnbcgnaaaDoor
set_option linter.unusedSimpArgs false
set_option linter.unusedVariables false
namespace Go.Proofs.YtonojegnbcgnaaaDoor
open Go.RowKit

theorem Kp.grownBy {r : Nat} {w w' : World} (h : Kp r w w') : w.grownBy w' (some r) := ⟨h.os, h.tape, h.output, h.size, fun k hk hne => h.block k hk (fun e => hne (by rw [e]))⟩
theorem below_grownBy {w w' : World} (h : Below w.heap.size w w') : w.grownBy w' none := ⟨h.os, h.tape, h.output, h.size, fun k hk _ => h.block k hk⟩
theorem own_kp {w w' : World} {base e size n r : Nat} {v : Value} {xs : List Value} (h : w.ownsRow base e size v n xs) (K : Kp r w w') (hr : r < base) : w'.ownsRow base e size v n xs := by
  refine h.kept K.grownBy ?_
  cases hv : v.ownBlock with
  | none => exact Or.inl rfl
  | some g => have := (h.lt g hv).1; exact Or.inr (by intro e; injection e; omega)
theorem own_below {w w' : World} {base e size n : Nat} {v : Value} {xs : List Value} (h : w.ownsRow base e size v n xs) (K : Below w.heap.size w w') : w'.ownsRow base e size v n xs := by
  refine h.kept (below_grownBy K) ?_
  cases hv : v.ownBlock with
  | none => exact Or.inl rfl
  | some g => exact Or.inr (by intro e; cases e)
/-- A store into a block below the base. -/
theorem own_set {w : World} {base e size n : Nat} {v : Value} {xs : List Value} (h : w.ownsRow base e size v n xs) {a : Addr} (ha : a.block < base) (u : Value) : (w.setCell a u).ownsRow base e size v n xs :=
  ownsRow_setCell_below h ha u
/-- An append to one's own row leaves all that lies below the row's base. -/
theorem own_grown {w w' : World} {base e size n : Nat} {v : Value} {xs : List Value} (h : w.ownsRow base e size v n xs) (hg : w.grownBy w' v.ownBlock) (hB : base ≤ w.heap.size) : Below base w w' :=
  (Below.refl base w).grown hg hB (fun k hk => (h.lt k hk).1)

theorem Fr.belowB {r B : Nat} {W w w' : World} {L : List (Nat × List Value)} (h : Fr r W w L) (K : Below B w w') (hW : W.heap.size ≤ B) (hL : ∀ p ∈ L, p.1 < B) : Fr r W w' L :=
  ⟨⟨K.os.trans h.kp.os, K.tape.trans h.kp.tape, K.output.trans h.kp.output, Nat.le_trans h.kp.size K.size, fun i hi hr => (K.block i (by omega)).trans (h.kp.block i hi hr)⟩, fun p hp => by
    obtain ⟨h1, h2, h3, h4⟩ := h.own p hp
    have hlt := hL p hp
    exact ⟨At.move (fun o v hv => (K.cell (p := ⟨p.1, o, none⟩) hlt).trans hv) (fun o v _ => K.frozen (p := ⟨p.1, o, none⟩) hlt) _ _ h1, h2, h3, Nat.lt_of_lt_of_le h4 K.size⟩⟩
theorem Fb.belowB {B : Nat} {W w w' : World} {L : List (Nat × List Value)} (h : Fb W w L) (K : Below B w w') (hW : W.heap.size ≤ B) (hL : ∀ p ∈ L, p.1 < B) : Fb W w' L :=
  ⟨h.kp.trans (K.mono hW), fun p hp => by
    obtain ⟨h1, h2, h3⟩ := h.own p hp
    have hlt := hL p hp
    exact ⟨At.move (fun o v hv => (K.cell (p := ⟨p.1, o, none⟩) hlt).trans hv) (fun o v _ => K.frozen (p := ⟨p.1, o, none⟩) hlt) _ _ h1, h2, Nat.lt_of_lt_of_le h3 K.size⟩⟩

/-- The row of a value lies in a block from B on. -/
def Fresh (B : Nat) (v : Value) : Prop := ∀ g, v.ownBlock = some g → B ≤ g
theorem Fresh.mono {B B' : Nat} {v : Value} (h : Fresh B v) (hB : B' ≤ B) : Fresh B' v := fun g hg => Nat.le_trans hB (h g hg)
theorem fresh_own {w : World} {base e size n : Nat} {v : Value} {xs : List Value} (h : w.ownsRow base e size v n xs) : Fresh base v := fun g hg => (h.lt g hg).1
theorem fresh_nil (B n c : Nat) : Fresh B (.slice none n c) := fun g hg => by simp [Value.ownBlock] at hg

theorem le_maxLen {n : Nat} (h : n ≤ 1000000000) : n ≤ maxLen := by unfold maxLen; omega
theorem lt_maxLen {n : Nat} (h : n ≤ 1000000000) : n < maxLen := by unfold maxLen; omega
theorem addr_add (g n : Nat) : (⟨g, 0, none⟩ : Addr).add n = ⟨g, n, none⟩ := by
  unfold Addr.add; split <;> simp_all
theorem flat_get {α : Type} {enc : α → List Value} {sz : Nat} (hs : ∀ x, (enc x).length = sz) : ∀ (L : List α) (k : Nat) (x : α) (j : Nat) (u : Value), L[k]? = some x → (enc x)[j]? = some u → (L.flatMap enc)[k * sz + j]? = some u
  | [], k, x, j, u, h, _ => by simp at h
  | y :: L, 0, x, j, u, h, hu => by
    simp at h; subst h
    have hj : j < (enc y).length := (List.getElem?_eq_some_iff.1 hu).1
    rw [List.flatMap_cons, Nat.zero_mul, Nat.zero_add, List.getElem?_append_left hj]; exact hu
  | y :: L, k + 1, x, j, u, h, hu => by
    have ih := flat_get hs L k x j u (by simpa using h) hu
    rw [List.flatMap_cons, List.getElem?_append_right (by rw [hs, Nat.succ_mul]; omega), hs]
    rw [show (k + 1) * sz + j - sz = k * sz + j by rw [Nat.succ_mul]; omega]; exact ih
theorem Rows.of_own {α : Type} {w : World} {base e sz n : Nat} {v : Value} {xs : List Value} {enc : α → List Value} {L : List α} (h : w.ownsRow base e sz v n xs) (hs : ∀ x, (enc x).length = sz) (hn : L.length = n) (hx : xs = L.flatMap enc) : Rows w v sz enc L := by
  have hc := fun g hg => h.cells (g := g) hg
  obtain ⟨h1, ⟨rfl, h2⟩ | ⟨g, cap, cur, rfl, h2, h3, h4, h5, h6, h7⟩⟩ := h
  · have : L = [] := by cases L with | nil => rfl | cons y L => simp at hn; omega
    subst this; exact Rows.nil _ _ _ (by omega) _ _
  · subst hn
    refine ⟨some ⟨g, 0, Option.none⟩, cap, rfl, h4, by unfold maxLen at h5; omega, fun k x hk => ⟨g, 0, rfl, fun j u hj => ?_⟩⟩
    have := hc g rfl (k * sz + j) u (by rw [hx]; exact flat_get hs L k x j u hk hj)
    rw [addr_add] at this
    rw [Nat.zero_add]; exact this
theorem flat_snoc {α : Type} (enc : α → List Value) (L : List α) (x : α) : L.flatMap enc ++ enc x = (L ++ [x]).flatMap enc := by simp
theorem Rows.kp {α : Type} {w w' : World} {v : Value} {sz r : Nat} {enc : α → List Value} {L : List α} (h : Rows w v sz enc L) (K : Kp r w w') {B : Nat} (hf : Fresh B v) (hr : r < B) : Rows w' v sz enc L := by
  obtain ⟨ao, cap, e, h1, h2, h3⟩ := h.ex
  refine ⟨ao, cap, e, h1, h2, fun k x hk => ?_⟩
  obtain ⟨b, off, e1, hc⟩ := h3 k x hk
  exact ⟨b, off, e1, fun j u hj => K.cell (hc j u hj) (by have := hf b (by rw [e, e1]; rfl); dsimp only; omega)⟩
theorem cells_new (w : World) (vs : List Value) (T : TypeId) : ∀ j u, vs[j]? = some u → (w.alloc (.cells vs.toArray T)).cell? ((⟨w.heap.size, 0, none⟩ : Addr).add j) = some u := by
  intro j u h
  rw [addr_add]
  have e : vs.toArray[j]? = some u := by simpa using h
  simp [e]
theorem cells_new' (w : World) (vs : List Value) (T : TypeId) {b : Nat} (hb : b = w.heap.size) : ∀ j u, vs[j]? = some u → (w.alloc (.cells vs.toArray T)).cell? ((⟨b, 0, none⟩ : Addr).add j) = some u := by
  subst hb; exact cells_new w vs T
theorem Rows.alloc {α : Type} {w : World} {v : Value} {sz : Nat} {enc : α → List Value} {L : List α} (h : Rows w v sz enc L) (o : Obj) : Rows (w.alloc o) v sz enc L := h.below ((Below.refl _ _).alloc (Nat.le_refl _) _)
theorem Rows.drew {α : Type} {w : World} {v : Value} {sz : Nat} {enc : α → List Value} {L : List α} (h : Rows w v sz enc L) : Rows w.drew v sz enc L := h.below (Below.refl _ _).drew
theorem Rows.set {α : Type} {w : World} {v : Value} {sz : Nat} {enc : α → List Value} {L : List α} (h : Rows w v sz enc L) {B : Nat} (hf : Fresh B v) {p : Addr} (hp : p.block < B) (u : Value) : Rows (w.setCell p u) v sz enc L := by
  obtain ⟨ao, cap, e, h1, h2, h3⟩ := h.ex
  refine ⟨ao, cap, e, h1, h2, fun k x hk => ?_⟩
  obtain ⟨b, off, e1, hc⟩ := h3 k x hk
  exact ⟨b, off, e1, fun j u hj => (World.cell?_setCell_other _ _ _ _ (by have := hf b (by rw [e, e1]; rfl); intro e2; rw [e2] at hp; dsimp only at hp; omega)).trans (hc j u hj)⟩
theorem Rows.setO {α : Type} {w : World} {v : Value} {sz : Nat} {enc : α → List Value} {L : List α} (h : Rows w v sz enc L) {p : Addr} (hp : v.ownBlock ≠ some p.block) (u : Value) : Rows (w.setCell p u) v sz enc L := by
  obtain ⟨ao, cap, e, h1, h2, h3⟩ := h.ex
  refine ⟨ao, cap, e, h1, h2, fun k x hk => ?_⟩
  obtain ⟨b, off, e1, hc⟩ := h3 k x hk
  exact ⟨b, off, e1, fun j u hj => (World.cell?_setCell_other _ _ _ _ (by intro e2; rw [e, e1, e2] at hp; exact hp rfl)).trans (hc j u hj)⟩
theorem Rows.lt {α : Type} {w : World} {v : Value} {sz : Nat} {enc : α → List Value} {L : List α} (h : Rows w v sz enc L) (hs : ∀ x, 0 < (enc x).length) (hL : 0 < L.length) : ∀ g, v.ownBlock = some g → g < w.heap.size := by
  obtain ⟨ao, cap, rfl, h1, h2, h3⟩ := h.ex
  obtain ⟨b, off, rfl, hc⟩ := h3 0 L[0] (List.getElem?_eq_getElem hL)
  intro g hg
  injection hg with hg; subst hg
  have := hs L[0]
  have := World.block_lt_of_cell? w _ (hc 0 _ (List.getElem?_eq_getElem this))
  exact this
theorem Rows.get {α : Type} {w : World} {b off n cap sz : Nat} {enc : α → List Value} {L : List α} (h : Rows w (.slice (some ⟨b, off, Option.none⟩) n cap) sz enc L) {k : Nat} {x : α} (hk : L[k]? = some x) {j : Nat} {u : Value} (hu : (enc x)[j]? = some u) : w.cell? ⟨b, off + k * sz + j, Option.none⟩ = some u := by
  obtain ⟨ao, cap', e, h1, h2, h3⟩ := h.ex
  obtain ⟨b', off', rfl, hc⟩ := h3 k x hk
  injection e with e1 e2 e3; injection e1 with e1; injection e1 with e4 e5; subst e4; subst e5
  exact hc j u hu
theorem Below.keep2 {w w' : World} (hb : Below w.heap.size w w') {a b : Addr} {u v : Value} (h : w.cell? a = some u ∧ w.cell? b = some v) : w'.cell? a = some u ∧ w'.cell? b = some v :=
  ⟨(hb.cell (World.block_lt_of_cell? _ _ h.1)).trans h.1, (hb.cell (World.block_lt_of_cell? _ _ h.2)).trans h.2⟩
theorem alloc2w {w : World} {a b : Addr} {u v : Value} (h : w.cell? a = some u ∧ w.cell? b = some v) (o : Obj) : (w.alloc o).cell? a = some u ∧ (w.alloc o).cell? b = some v :=
  Below.keep2 ((Below.refl w.heap.size w).alloc (Nat.le_refl _) o) h
theorem set2w {w : World} {a b : Addr} {u v : Value} (h : w.cell? a = some u ∧ w.cell? b = some v) (p : Addr) (x : Value) (hp : p.block ≠ a.block) (hp' : p.block ≠ b.block) : (w.setCell p x).cell? a = some u ∧ (w.setCell p x).cell? b = some v :=
  ⟨(World.cell?_setCell_other _ _ _ _ (fun e => hp (by rw [e]))).trans h.1, (World.cell?_setCell_other _ _ _ _ (fun e => hp' (by rw [e]))).trans h.2⟩
theorem Below.v2w {w w' : World} (hb : Below w.heap.size w w') {a b : Addr} {u v : Value} (h : w.cell? a = some u ∧ w.cell? b = some v) : w'.cell? a = some u ∧ w'.cell? b = some v :=
  ⟨(hb.cell (World.block_lt_of_cell? _ _ h.1)).trans h.1, (hb.cell (World.block_lt_of_cell? _ _ h.2)).trans h.2⟩
theorem Kp.v2w {r : Nat} {w w' : World} (hb : Kp r w w') {a b : Addr} {u v : Value} (h : w.cell? a = some u ∧ w.cell? b = some v) (hr : a.block ≠ r) (hr' : b.block ≠ r) : w'.cell? a = some u ∧ w'.cell? b = some v :=
  ⟨hb.cell h.1 hr, hb.cell h.2 hr'⟩
end Go.Proofs.YtonojegnbcgnaaaDoor
