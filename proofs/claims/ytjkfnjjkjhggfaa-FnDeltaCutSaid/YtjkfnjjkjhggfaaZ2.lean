/- Rows of equal cells that can be read; searches through lists. Slices of one's own that grow; what a change of other blocks leaves. Slices of one's own that grow, in one word: the row reads as a list; each append leaves other rows alone. -/
import Derived.Test.YtjkfnjjkjhggfaaZ1
import Derived.Laws.AppendOwn
import Derived.OwnWalk
set_option linter.unusedSimpArgs false
set_option linter.unusedVariables false
namespace Go.Proofs.Ytjkfnjjkjhggfaa
open Go.RowKit

/-- The slice value v reads as the list L: each element lies in sz cells, which hold enc x. -/
structure Rows {α : Type} (w : World) (v : Value) (sz : Nat) (enc : α → List Value) (L : List α) : Prop where
  ex : ∃ ao cap, v = .slice ao L.length cap ∧ L.length ≤ cap ∧ cap ≤ 9223372036854775807 ∧ ∀ k x, L[k]? = some x → ∃ b off, ao = some ⟨b, off, none⟩ ∧ ∀ j u, (enc x)[j]? = some u → w.cell? ⟨b, off + k * sz + j, none⟩ = some u

theorem Rows.below {α : Type} {w w' : World} {v : Value} {sz : Nat} {enc : α → List Value} {L : List α} (h : Rows w v sz enc L) (hb : Below w.heap.size w w') : Rows w' v sz enc L := by
  obtain ⟨ao, cap, e, h1, h2, h3⟩ := h.ex
  refine ⟨ao, cap, e, h1, h2, fun k x hk => ?_⟩
  obtain ⟨b, off, e1, hc⟩ := h3 k x hk
  exact ⟨b, off, e1, fun j u hj => (hb.cell (World.block_lt_of_cell? w _ (hc j u hj))).trans (hc j u hj)⟩
theorem Rows.nil {α : Type} (w : World) (ao : Option Addr) (cap : Nat) (hc : cap ≤ 9223372036854775807) (sz : Nat) (enc : α → List Value) : Rows w (.slice ao 0 cap) sz enc [] :=
  ⟨ao, cap, rfl, Nat.zero_le _, hc, fun k x h => by simp at h⟩
/-- Either no element, or an address. -/
theorem Rows.cases {α : Type} {w : World} {v : Value} {sz : Nat} {enc : α → List Value} {L : List α} (h : Rows w v sz enc L) :
    ∃ n cap, Hid (L.length = n) ∧ n ≤ cap ∧ cap ≤ 9223372036854775807 ∧ ((n ≤ 0 ∧ ∃ ao, v = .slice ao n cap) ∨ (0 < n ∧ ∃ b off, v = .slice (some ⟨b, off, Option.none⟩) n cap ∧ Hid (∀ k x, L[k]? = some x → ∀ j u, (enc x)[j]? = some u → w.cell? ⟨b, off + k * sz + j, Option.none⟩ = some u))) := by
  obtain ⟨ao, cap, rfl, h1, h2, h3⟩ := h.ex
  refine ⟨L.length, cap, rfl, h1, h2, ?_⟩
  cases L with
  | nil => exact Or.inl ⟨Nat.le_refl _, ao, rfl⟩
  | cons y L =>
    obtain ⟨b, off, rfl, _⟩ := h3 0 y rfl
    refine Or.inr ⟨by simp, b, off, rfl, fun k x hk j u hj => ?_⟩
    obtain ⟨b', off', e, hc⟩ := h3 k x hk
    injection e with e; injection e with e1 e2; subst e1; subst e2
    exact hc j u hj
theorem Rows.len {α : Type} {w : World} {v : Value} {sz : Nat} {enc : α → List Value} {L : List α} (h : Rows w v sz enc L) : L.length ≤ 9223372036854775807 := by
  obtain ⟨ao, cap, rfl, h1, h2, h3⟩ := h.ex; omega
theorem Cl.old {w wr : World} {L : List (Nat × List Value)} (hF : Fb w wr L) (x : Cl wr.heap.size wr) {a : Addr} {v : Value} (h : w.cell? a = some v) : x.W.cell? a = some v :=
  ((hF.cl x).kp.cell (World.block_lt_of_cell? w a h)).trans h
theorem Fb.old {w wr : World} {L : List (Nat × List Value)} (hF : Fb w wr L) {a : Addr} {v : Value} (h : w.cell? a = some v) : wr.cell? a = some v :=
  (hF.kp.cell (World.block_lt_of_cell? w a h)).trans h
theorem Fr.old {r : Nat} {w wr : World} {L : List (Nat × List Value)} (hF : Fr r w wr L) {a : Addr} {v : Value} (h : w.cell? a = some v) (hr : a.block ≠ r) : wr.cell? a = some v :=
  hF.kp.cell h hr

theorem any_hit {α : Type} {p : α → Bool} {L : List α} {k : Nat} {x : α} (h : L[k]? = some x) (hp : p x = true) : L.any p = true :=
  List.any_eq_true.2 ⟨x, List.mem_of_getElem? h, hp⟩
theorem take_succ' {α : Type} {L : List α} {k : Nat} {x : α} (h : L[k]? = some x) : L.take (k + 1) = L.take k ++ [x] := by
  rw [List.take_add_one, h]; rfl
theorem any_step {α : Type} {p : α → Bool} {L : List α} {k : Nat} {x : α} (h0 : (L.take k).any p = false) (h : L[k]? = some x) (hp : p x = false) : (L.take (k + 1)).any p = false := by
  rw [take_succ' h, List.any_append, h0]; simp [hp]
theorem any_end {α : Type} {p : α → Bool} {L : List α} {k : Nat} (h0 : (L.take k).any p = false) (h : L.length ≤ k) : L.any p = false := by
  rwa [List.take_of_length_le h] at h0
theorem all_miss {α : Type} {p : α → Bool} {L : List α} {k : Nat} {x : α} (h : L[k]? = some x) (hp : p x = false) : L.all p = false := by
  rw [List.all_eq_false]; exact ⟨x, List.mem_of_getElem? h, by simp [hp]⟩
theorem all_step {α : Type} {p : α → Bool} {L : List α} {k : Nat} {x : α} (h0 : (L.take k).all p = true) (h : L[k]? = some x) (hp : p x = true) : (L.take (k + 1)).all p = true := by
  rw [take_succ' h, List.all_append, h0]; simp [hp]
theorem all_end {α : Type} {p : α → Bool} {L : List α} {k : Nat} (h0 : (L.take k).all p = true) (h : L.length ≤ k) : L.all p = true := by
  rwa [List.take_of_length_le h] at h0
theorem get_lt {α : Type} {L : List α} {k : Nat} (h : k < L.length) : ∃ x, L[k]? = some x := ⟨L[k], List.getElem?_eq_getElem h⟩
theorem get_of {α : Type} {L : List α} {k n : Nat} (hn : L.length = n) (h : k < n) : ∃ x, L[k]? = some x := get_lt (hn ▸ h)
end Go.Proofs.Ytjkfnjjkjhggfaa
set_option linter.unusedSimpArgs false
set_option linter.unusedVariables false
namespace Go.Proofs.Ytjkfnjjkjhggfaa
open Go.RowKit

theorem Kp.grownBy {r : Nat} {w w' : World} (h : Kp r w w') : w.grownBy w' (some r) := ⟨h.os, h.tape, h.output, h.size, fun k hk hne => h.block k hk (fun e => hne (by rw [e]))⟩
theorem below_grownBy {w w' : World} (h : Below w.heap.size w w') : w.grownBy w' none := ⟨h.os, h.tape, h.output, h.size, fun k hk _ => h.block k hk⟩
theorem own_kp {w w' : World} {base e size n r : Nat} {v : Value} {xs : List Value} (h : w.ownsRow base e size v n xs) (K : Kp r w w') (hr : r < base) : w'.ownsRow base e size v n xs := by
  refine h.kept K.grownBy ?_
  cases hv : v.ownBlock with
  | none => exact Or.inl rfl
  | some g => have := (h.lt g hv).1; exact Or.inr (by intro e; injection e; omega)
theorem own_below {w w' : World} {base e size n : Nat} {v : Value} {xs : List Value} (h : w.ownsRow base e size v n xs) (K : Below w.heap.size w w') : w'.ownsRow base e size v n xs := by
  refine h.kept (below_grownBy K) ?_
  cases hv : v.ownBlock with
  | none => exact Or.inl rfl
  | some g => exact Or.inr (by intro e; cases e)
/-- A store into a block below the base. -/
theorem own_set {w : World} {base e size n : Nat} {v : Value} {xs : List Value} (h : w.ownsRow base e size v n xs) {a : Addr} (ha : a.block < base) (u : Value) : (w.setCell a u).ownsRow base e size v n xs :=
  ownsRow_setCell_below h ha u
/-- An append to one's own row leaves all that lies below the row's base. -/
theorem own_grown {w w' : World} {base e size n : Nat} {v : Value} {xs : List Value} (h : w.ownsRow base e size v n xs) (hg : w.grownBy w' v.ownBlock) (hB : base ≤ w.heap.size) : Below base w w' :=
  (Below.refl base w).grown hg hB (fun k hk => (h.lt k hk).1)

theorem Fr.belowB {r B : Nat} {W w w' : World} {L : List (Nat × List Value)} (h : Fr r W w L) (K : Below B w w') (hW : W.heap.size ≤ B) (hL : ∀ p ∈ L, p.1 < B) : Fr r W w' L :=
  ⟨⟨K.os.trans h.kp.os, K.tape.trans h.kp.tape, K.output.trans h.kp.output, Nat.le_trans h.kp.size K.size, fun i hi hr => (K.block i (by omega)).trans (h.kp.block i hi hr)⟩, fun p hp => by
    obtain ⟨h1, h2, h3, h4⟩ := h.own p hp
    have hlt := hL p hp
    exact ⟨At.move (fun o v hv => (K.cell (p := ⟨p.1, o, none⟩) hlt).trans hv) (fun o v _ => K.frozen (p := ⟨p.1, o, none⟩) hlt) _ _ h1, h2, h3, Nat.lt_of_lt_of_le h4 K.size⟩⟩
theorem Fb.belowB {B : Nat} {W w w' : World} {L : List (Nat × List Value)} (h : Fb W w L) (K : Below B w w') (hW : W.heap.size ≤ B) (hL : ∀ p ∈ L, p.1 < B) : Fb W w' L :=
  ⟨h.kp.trans (K.mono hW), fun p hp => by
    obtain ⟨h1, h2, h3⟩ := h.own p hp
    have hlt := hL p hp
    exact ⟨At.move (fun o v hv => (K.cell (p := ⟨p.1, o, none⟩) hlt).trans hv) (fun o v _ => K.frozen (p := ⟨p.1, o, none⟩) hlt) _ _ h1, h2, Nat.lt_of_lt_of_le h3 K.size⟩⟩

/-- The row of a value lies in a block from B on. -/
def Fresh (B : Nat) (v : Value) : Prop := ∀ g, v.ownBlock = some g → B ≤ g
theorem Fresh.mono {B B' : Nat} {v : Value} (h : Fresh B v) (hB : B' ≤ B) : Fresh B' v := fun g hg => Nat.le_trans hB (h g hg)
theorem fresh_own {w : World} {base e size n : Nat} {v : Value} {xs : List Value} (h : w.ownsRow base e size v n xs) : Fresh base v := fun g hg => (h.lt g hg).1
theorem fresh_nil (B n c : Nat) : Fresh B (.slice none n c) := fun g hg => by simp [Value.ownBlock] at hg

theorem le_maxLen {n : Nat} (h : n ≤ 1000000000) : n ≤ maxLen := by unfold maxLen; omega
theorem lt_maxLen {n : Nat} (h : n ≤ 1000000000) : n < maxLen := by unfold maxLen; omega
theorem addr_add (g n : Nat) : (⟨g, 0, none⟩ : Addr).add n = ⟨g, n, none⟩ := by
  unfold Addr.add; split <;> simp_all
theorem flat_get {α : Type} {enc : α → List Value} {sz : Nat} (hs : ∀ x, (enc x).length = sz) : ∀ (L : List α) (k : Nat) (x : α) (j : Nat) (u : Value), L[k]? = some x → (enc x)[j]? = some u → (L.flatMap enc)[k * sz + j]? = some u
  | [], k, x, j, u, h, _ => by simp at h
  | y :: L, 0, x, j, u, h, hu => by
    simp at h; subst h
    have hj : j < (enc y).length := (List.getElem?_eq_some_iff.1 hu).1
    rw [List.flatMap_cons, Nat.zero_mul, Nat.zero_add, List.getElem?_append_left hj]; exact hu
  | y :: L, k + 1, x, j, u, h, hu => by
    have ih := flat_get hs L k x j u (by simpa using h) hu
    rw [List.flatMap_cons, List.getElem?_append_right (by rw [hs, Nat.succ_mul]; omega), hs]
    rw [show (k + 1) * sz + j - sz = k * sz + j by rw [Nat.succ_mul]; omega]; exact ih
theorem Rows.of_own {α : Type} {w : World} {base e sz n : Nat} {v : Value} {xs : List Value} {enc : α → List Value} {L : List α} (h : w.ownsRow base e sz v n xs) (hs : ∀ x, (enc x).length = sz) (hn : L.length = n) (hx : xs = L.flatMap enc) : Rows w v sz enc L := by
  have hc := fun g hg => h.cells (g := g) hg
  obtain ⟨h1, ⟨rfl, h2⟩ | ⟨g, cap, cur, rfl, h2, h3, h4, h5, h6, h7⟩⟩ := h
  · have : L = [] := by cases L with | nil => rfl | cons y L => simp at hn; omega
    subst this; exact Rows.nil _ _ _ (by omega) _ _
  · subst hn
    refine ⟨some ⟨g, 0, Option.none⟩, cap, rfl, h4, by unfold maxLen at h5; omega, fun k x hk => ⟨g, 0, rfl, fun j u hj => ?_⟩⟩
    have := hc g rfl (k * sz + j) u (by rw [hx]; exact flat_get hs L k x j u hk hj)
    rw [addr_add] at this
    rw [Nat.zero_add]; exact this
theorem flat_snoc {α : Type} (enc : α → List Value) (L : List α) (x : α) : L.flatMap enc ++ enc x = (L ++ [x]).flatMap enc := by simp
theorem Rows.kp {α : Type} {w w' : World} {v : Value} {sz r : Nat} {enc : α → List Value} {L : List α} (h : Rows w v sz enc L) (K : Kp r w w') {B : Nat} (hf : Fresh B v) (hr : r < B) : Rows w' v sz enc L := by
  obtain ⟨ao, cap, e, h1, h2, h3⟩ := h.ex
  refine ⟨ao, cap, e, h1, h2, fun k x hk => ?_⟩
  obtain ⟨b, off, e1, hc⟩ := h3 k x hk
  exact ⟨b, off, e1, fun j u hj => K.cell (hc j u hj) (by have := hf b (by rw [e, e1]; rfl); dsimp only; omega)⟩
theorem cells_new (w : World) (vs : List Value) (T : TypeId) : ∀ j u, vs[j]? = some u → (w.alloc (.cells vs.toArray T)).cell? ((⟨w.heap.size, 0, none⟩ : Addr).add j) = some u := by
  intro j u h
  rw [addr_add]
  have e : vs.toArray[j]? = some u := by simpa using h
  simp [e]
theorem cells_new' (w : World) (vs : List Value) (T : TypeId) {b : Nat} (hb : b = w.heap.size) : ∀ j u, vs[j]? = some u → (w.alloc (.cells vs.toArray T)).cell? ((⟨b, 0, none⟩ : Addr).add j) = some u := by
  subst hb; exact cells_new w vs T
theorem Rows.alloc {α : Type} {w : World} {v : Value} {sz : Nat} {enc : α → List Value} {L : List α} (h : Rows w v sz enc L) (o : Obj) : Rows (w.alloc o) v sz enc L := h.below ((Below.refl _ _).alloc (Nat.le_refl _) _)
theorem Rows.drew {α : Type} {w : World} {v : Value} {sz : Nat} {enc : α → List Value} {L : List α} (h : Rows w v sz enc L) : Rows w.drew v sz enc L := h.below (Below.refl _ _).drew
theorem Rows.set {α : Type} {w : World} {v : Value} {sz : Nat} {enc : α → List Value} {L : List α} (h : Rows w v sz enc L) {B : Nat} (hf : Fresh B v) {p : Addr} (hp : p.block < B) (u : Value) : Rows (w.setCell p u) v sz enc L := by
  obtain ⟨ao, cap, e, h1, h2, h3⟩ := h.ex
  refine ⟨ao, cap, e, h1, h2, fun k x hk => ?_⟩
  obtain ⟨b, off, e1, hc⟩ := h3 k x hk
  exact ⟨b, off, e1, fun j u hj => (World.cell?_setCell_other _ _ _ _ (by have := hf b (by rw [e, e1]; rfl); intro e2; rw [e2] at hp; dsimp only at hp; omega)).trans (hc j u hj)⟩
theorem Rows.setO {α : Type} {w : World} {v : Value} {sz : Nat} {enc : α → List Value} {L : List α} (h : Rows w v sz enc L) {p : Addr} (hp : v.ownBlock ≠ some p.block) (u : Value) : Rows (w.setCell p u) v sz enc L := by
  obtain ⟨ao, cap, e, h1, h2, h3⟩ := h.ex
  refine ⟨ao, cap, e, h1, h2, fun k x hk => ?_⟩
  obtain ⟨b, off, e1, hc⟩ := h3 k x hk
  exact ⟨b, off, e1, fun j u hj => (World.cell?_setCell_other _ _ _ _ (by intro e2; rw [e, e1, e2] at hp; exact hp rfl)).trans (hc j u hj)⟩
theorem Rows.lt {α : Type} {w : World} {v : Value} {sz : Nat} {enc : α → List Value} {L : List α} (h : Rows w v sz enc L) (hs : ∀ x, 0 < (enc x).length) (hL : 0 < L.length) : ∀ g, v.ownBlock = some g → g < w.heap.size := by
  obtain ⟨ao, cap, rfl, h1, h2, h3⟩ := h.ex
  obtain ⟨b, off, rfl, hc⟩ := h3 0 L[0] (List.getElem?_eq_getElem hL)
  intro g hg
  injection hg with hg; subst hg
  have := hs L[0]
  have := World.block_lt_of_cell? w _ (hc 0 _ (List.getElem?_eq_getElem this))
  exact this
theorem Rows.get {α : Type} {w : World} {b off n cap sz : Nat} {enc : α → List Value} {L : List α} (h : Rows w (.slice (some ⟨b, off, Option.none⟩) n cap) sz enc L) {k : Nat} {x : α} (hk : L[k]? = some x) {j : Nat} {u : Value} (hu : (enc x)[j]? = some u) : w.cell? ⟨b, off + k * sz + j, Option.none⟩ = some u := by
  obtain ⟨ao, cap', e, h1, h2, h3⟩ := h.ex
  obtain ⟨b', off', rfl, hc⟩ := h3 k x hk
  injection e with e1 e2 e3; injection e1 with e1; injection e1 with e4 e5; subst e4; subst e5
  exact hc j u hu
theorem Below.keep2 {w w' : World} (hb : Below w.heap.size w w') {a b : Addr} {u v : Value} (h : w.cell? a = some u ∧ w.cell? b = some v) : w'.cell? a = some u ∧ w'.cell? b = some v :=
  ⟨(hb.cell (World.block_lt_of_cell? _ _ h.1)).trans h.1, (hb.cell (World.block_lt_of_cell? _ _ h.2)).trans h.2⟩
theorem alloc2w {w : World} {a b : Addr} {u v : Value} (h : w.cell? a = some u ∧ w.cell? b = some v) (o : Obj) : (w.alloc o).cell? a = some u ∧ (w.alloc o).cell? b = some v :=
  Below.keep2 ((Below.refl w.heap.size w).alloc (Nat.le_refl _) o) h
theorem set2w {w : World} {a b : Addr} {u v : Value} (h : w.cell? a = some u ∧ w.cell? b = some v) (p : Addr) (x : Value) (hp : p.block ≠ a.block) (hp' : p.block ≠ b.block) : (w.setCell p x).cell? a = some u ∧ (w.setCell p x).cell? b = some v :=
  ⟨(World.cell?_setCell_other _ _ _ _ (fun e => hp (by rw [e]))).trans h.1, (World.cell?_setCell_other _ _ _ _ (fun e => hp' (by rw [e]))).trans h.2⟩
theorem Below.v2w {w w' : World} (hb : Below w.heap.size w w') {a b : Addr} {u v : Value} (h : w.cell? a = some u ∧ w.cell? b = some v) : w'.cell? a = some u ∧ w'.cell? b = some v :=
  ⟨(hb.cell (World.block_lt_of_cell? _ _ h.1)).trans h.1, (hb.cell (World.block_lt_of_cell? _ _ h.2)).trans h.2⟩
theorem Kp.v2w {r : Nat} {w w' : World} (hb : Kp r w w') {a b : Addr} {u v : Value} (h : w.cell? a = some u ∧ w.cell? b = some v) (hr : a.block ≠ r) (hr' : b.block ≠ r) : w'.cell? a = some u ∧ w'.cell? b = some v :=
  ⟨hb.cell h.1 hr, hb.cell h.2 hr'⟩
end Go.Proofs.Ytjkfnjjkjhggfaa
set_option linter.unusedSimpArgs false
set_option linter.unusedVariables false
namespace Go.Proofs.Ytjkfnjjkjhggfaa
open Go.RowKit

/-- v is a slice of one's own, from block B on, that reads as L. -/
def Own {α : Type} (E : TypeId) (w : World) (B : Nat) (v : Value) (sz : Nat) (enc : α → List Value) (L : List α) : Prop := w.ownsRow B E sz v L.length (L.flatMap enc)
/-- After an append: in the block where it was, or in a new one. -/
def Frsh (w : World) (v v' : Value) : Prop := v'.ownBlock = v.ownBlock ∨ ∃ g, v'.ownBlock = some g ∧ w.heap.size ≤ g
def Apart (u v : Value) : Prop := ∀ g, u.ownBlock = some g → v.ownBlock ≠ some g
theorem Apart.symm {u v : Value} (h : Apart u v) : Apart v u := fun g h1 h2 => h g h2 h1
theorem Apart.frsh {w : World} {u v v' : Value} (h : Apart u v) (hf : Frsh w v v') (hu : ∀ g, u.ownBlock = some g → g < w.heap.size) : Apart u v' := fun g h1 h2 => by
  rcases hf with e | ⟨g', e, hg⟩
  · rw [e] at h2; exact h g h1 h2
  · rw [e] at h2; injection h2 with h2; have := hu g h1; omega
theorem Apart.frsh' {w : World} {u v v' : Value} (h : Apart v u) (hf : Frsh w v v') (hu : ∀ g, u.ownBlock = some g → g < w.heap.size) : Apart v' u := (h.symm.frsh hf hu).symm
theorem Frsh.trans {w w1 : World} {u v x : Value} (h : Frsh w u v) (k : Frsh w1 v x) (hs : w.heap.size ≤ w1.heap.size) : Frsh w u x := by
  rcases k with e | ⟨g, e, hg⟩
  · rcases h with e1 | ⟨g, e1, hg⟩
    · exact Or.inl (e.trans e1)
    · exact Or.inr ⟨g, e.trans e1, hg⟩
  · exact Or.inr ⟨g, e, by omega⟩
theorem apart_nil (u : Value) (n c : Nat) : Apart u (.slice none n c) := fun g _ h => by simp [Value.ownBlock] at h
theorem apart_lt {B : Nat} {u v : Value} (hu : ∀ g, u.ownBlock = some g → g < B) (hv : ∀ g, v.ownBlock = some g → B ≤ g) : Apart u v := fun g h1 h2 => by have := hu g h1; have := hv g h2; omega
section
variable {α : Type} {E : TypeId} {w w' : World} {B : Nat} {v : Value} {sz : Nat} {enc : α → List Value} {L : List α}
theorem Own.rows (h : Own E w B v sz enc L) (hs : ∀ x, (enc x).length = sz) : Rows w v sz enc L := Rows.of_own h hs rfl rfl
theorem Own.lt (h : Own E w B v sz enc L) : ∀ g, v.ownBlock = some g → g < w.heap.size := fun g hg => (World.ownsRow.lt h g hg).2
theorem Own.ge (h : Own E w B v sz enc L) : ∀ g, v.ownBlock = some g → B ≤ g := fun g hg => (World.ownsRow.lt h g hg).1
theorem Own.kp {r : Nat} (h : Own E w B v sz enc L) (K : Kp r w w') (hr : r < B) : Own E w' B v sz enc L := own_kp h K hr
theorem Own.below (h : Own E w B v sz enc L) (K : Below w.heap.size w w') : Own E w' B v sz enc L := own_below h K
theorem Own.alloc (h : Own E w B v sz enc L) (o : Obj) : Own E (w.alloc o) B v sz enc L := World.ownsRow.alloc h o
theorem Own.drew (h : Own E w B v sz enc L) : Own E w.drew B v sz enc L := h.below (Below.refl _ _).drew
theorem Own.set (h : Own E w B v sz enc L) {a : Addr} (ha : a.block < B) (u : Value) : Own E (w.setCell a u) B v sz enc L := own_set h ha u
theorem Own.grown (h : Own E w B v sz enc L) {u : Value} (hg : w.grownBy w' u.ownBlock) (hu : Apart v u) : Own E w' B v sz enc L := by
  refine World.ownsRow.kept h hg ?_
  cases hv : v.ownBlock with
  | none => exact Or.inl rfl
  | some g => exact Or.inr (fun e => hu g hv e.symm)
theorem Own.base {B' : Nat} (h : Own E w B' v sz enc L) (hB : B ≤ B') : Own E w B v sz enc L := by
  obtain ⟨h1, ⟨e1, e2⟩ | ⟨g, cap, cur, rfl, h2, h3⟩⟩ := h
  · exact ⟨h1, Or.inl ⟨e1, e2⟩⟩
  · exact ⟨h1, Or.inr ⟨g, cap, cur, rfl, Nat.le_trans hB h2, h3⟩⟩
theorem Own.nil (E : TypeId) (w : World) (B sz : Nat) (enc : α → List Value) : Own E w B (.slice none 0 0) sz enc [] := World.ownsRow_nil w B E sz
theorem Own.made (E : TypeId) (w : World) (B sz : Nat) (enc : α → List Value) (hB : B ≤ w.heap.size) : Own E (w.alloc (.cells #[] E)) B (.slice (some ⟨w.heap.size, 0, none⟩) 0 0) sz enc [] := World.ownsRow_made (hb := hB) (hm := Nat.zero_le _) (hs := by simp)
/-- A slice written out, of k elements. -/
theorem Own.lit (E : TypeId) (w : World) (B sz : Nat) (enc : α → List Value) (L : List α) (hs : ∀ x, (enc x).length = sz) (hB : B ≤ w.heap.size) (hL : L.length ≤ 1000000) : Own E (w.alloc (.cells (L.flatMap enc).toArray E)) B (.slice (some ⟨w.heap.size, 0, none⟩) L.length L.length) sz enc L := by
  have hl : (L.flatMap enc).length = L.length * sz := by
    clear hL
    induction L with
    | nil => simp
    | cons x L ih => rw [List.flatMap_cons, List.length_append, ih, hs, List.length_cons, Nat.succ_mul]; omega
  exact ⟨hl, Or.inr ⟨w.heap.size, _, _, rfl, hB, heap_alloc_new w _, Nat.le_refl _, by unfold maxLen; omega, by rw [List.size_toArray]; exact hl, by rw [← hl]; exact List.take_length⟩⟩
theorem Own.sl (h : Own E w B v sz enc L) : ∃ ao cap, v = .slice ao L.length cap := by
  obtain ⟨h1, ⟨rfl, h2⟩ | ⟨g, cap, cur, rfl, h2, h3⟩⟩ := h
  · rw [h2]; exact ⟨none, 0, rfl⟩
  · exact ⟨_, _, rfl⟩
/-- Rows that others' appends leave alone. -/
theorem Rows.grown (h : Rows w v sz enc L) {u : Value} (hg : w.grownBy w' u.ownBlock) (hu : Apart v u) : Rows w' v sz enc L := by
  obtain ⟨ao, cap, e, h1, h2, h3⟩ := h.ex
  refine ⟨ao, cap, e, h1, h2, fun k x hk => ?_⟩
  obtain ⟨b, off, e1, hc⟩ := h3 k x hk
  exact ⟨b, off, e1, fun j y hj => hg.cell (hc j y hj) (fun e2 => hu b (by rw [e, e1]; rfl) e2.symm)⟩
end
theorem own_ne {α : Type} {E : TypeId} {w : World} {B : Nat} {v : Value} {sz : Nat} {enc : α → List Value} {L : List α} (h : Own E w B v sz enc L) (hL : 0 < L.length) : v ≠ .slice none 0 0 := by
  obtain ⟨_, ⟨rfl, h2⟩ | ⟨g, cap, cur, rfl, _⟩⟩ := h
  · omega
  · intro e; cases e
section
variable {P : Program} {w : World}
theorem append_block (base : Nat) (t ty e : TypeId) (i : TypeInfo) (z : Value) (size bytes : Nat) (ht : P.underlying t = some (.slice e)) (hi : P.info? e = some i) (hz : i.zero = some z)
    (hsize : i.size = size) (hby : i.bytes = bytes)
    (v : Value) (n : Nat) (xs : List Value) (hown : w.ownsRow base e size v n xs)
    (a : Addr) (m c : Nat) (news : List Value) (hl : news.length = m * size) (hnews : ∀ j u, news[j]? = some u → w.cell? (a.add j) = some u) (h1 : ∀ u ∈ news, u.oneCell' = true)
    (h63 : n + m ≤ maxLen) (hbytes : (n + m) * bytes ≤ 140737488355328) (hm0 : 0 < m) {v' : Value} {w' : World}
    (hr0 : (Builtin.append_ #[t, t] ty #[v, .slice (some a) m c]).run P w = .ok v' w') : Frsh w v v' := by
  subst hsize
  subst hby
  have hsmall : n + m ≤ 9223372036854775807 := by simp only [maxLen] at h63; omega
  rcases hown.2 with ⟨rfl, rfl⟩ | ⟨g, cap, cur, rfl, hbg, hg, hnc, hcm, hcs, htake⟩
  · have hr := run_append_nil (P := P) w t ty e i z ht hi hz a m c news hl hnews (by omega) (by omega) (by have hb := hbytes; simp only [Nat.zero_add] at hb; omega)
    rw [hr] at hr0
    injection hr0 with h1 h2
    subst h1
    exact Or.inr ⟨_, rfl, Nat.le_refl _⟩
  · by_cases hroom : n + m ≤ cap
    · have hfit : n * i.size + news.length ≤ cur.size := by rw [hl, hcs, ← Nat.add_mul]; exact Nat.mul_le_mul_right _ hroom
      have hr := run_append_room (P := P) w t ty e i ht hi g n cap cur hg a m c news hl hnews h1 hroom hfit
      rw [hr] at hr0
      injection hr0 with h1 h2
      subst h1
      exact Or.inl rfl
    · have holds : ∀ j u, xs[j]? = some u → w.cell? ((⟨g, 0, none⟩ : Addr).add j) = some u := hown.cells (g := g) rfl
      have hr := run_append_grow (P := P) w t ty e i z ht hi hz ⟨g, 0, none⟩ n cap xs hown.1 holds a m c news hl hnews (by omega) (by omega) (growslice_fits (by omega) hbytes)
      rw [hr] at hr0
      injection hr0 with h1 h2
      subst h1
      exact Or.inr ⟨_, rfl, Nat.le_refl _⟩
end
theorem wpList_app {α : Type} {P : Program} {ops : Array Oper} {rest : List Oper} {o : Oper} {a : Act} {w : World} {Q : Exit → Act → World → Prop} (hgd : o.guard = none) (s x : Operand) (t : TypeId)
    (ho : o.op = .call { callee := .builtin .append, args := #[s, x], argTypes := #[t, t] })
    (E : TypeId) (z : Value) (sz bytes : Nat) (ht : P.underlying t = some (.slice E)) (hI : (P.info? E).map (fun i => (i.zero, i.size, i.bytes)) = some (some z, sz, bytes)) (hzs : z.cells.size = sz) (hsz : 0 < sz) (hby : bytes ≤ 1000)
    (B : Nat) (enc : α → List Value) (v : Value) (L : List α) (hs : a.eval s = v) (hown : Own E w B v sz enc L) (y : α)
    (ad : Addr) (c : Nat) (hx : a.eval x = .slice (some ad) 1 c) (hl : (enc y).length = sz) (hnews : ∀ j u, (enc y)[j]? = some u → w.cell? (ad.add j) = some u) (h1 : ∀ u ∈ enc y, u.oneCell' = true)
    (hlen : L.length ≤ 1000000) (hB : B ≤ w.heap.size)
    (h : ∀ v' w', Own E w' B v' sz enc (L ++ [y]) → w.grownBy w' v.ownBlock → Below B w w' → Frsh w v v' → wpList P ops Q rest (a.put o.dst v') w') : wpList P ops Q (o :: rest) a w := by
  obtain ⟨i, hi, hz, hsize, hbytes⟩ := info_parts hI
  have hm : L.length + 1 ≤ maxLen := by unfold maxLen; omega
  have hb : (L.length + 1) * bytes ≤ 140737488355328 := Nat.le_trans (Nat.mul_le_mul (show L.length + 1 ≤ 1000001 by omega) hby) (by omega)
  obtain ⟨v', w', hr, h2, h3, h4⟩ := run_append_own (P := P) w B t o.type E i z sz bytes ht hi hz hsize hbytes hzs hsz v L.length (L.flatMap enc) hown ad 1 c (enc y) (by omega) hnews h1 hm hb hB
  have hf := append_block (P := P) (w := w) B t o.type E i z sz bytes ht hi hz hsize hbytes v L.length (L.flatMap enc) hown ad 1 c (enc y) (by omega) hnews h1 hm hb (by omega) hr
  refine wpList_plain hgd fun K hK => ?_
  unfold Oper.wp execOp
  simp only [ho, resolve, invoke, builtin, Sem.run_bind, Sem.run_pure, Result.andThen_ok, List.map_toArray, List.map_cons, List.map_nil, hs, hx, hr]
  exact hK _ _ (h v' w' (by unfold Own; rw [List.length_append, List.flatMap_append]; simpa using h2) h3 (own_grown hown h3 hB) hf)
end Go.Proofs.Ytjkfnjjkjhggfaa
