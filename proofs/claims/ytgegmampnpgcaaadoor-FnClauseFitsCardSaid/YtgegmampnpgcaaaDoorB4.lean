/- Slices of one's own that grow; what a change of other blocks leaves. -/
import Derived.Test.YtgegmampnpgcaaaDoorB3
import Derived.Laws.AppendOwn
set_option linter.unusedSimpArgs false
set_option linter.unusedVariables false
namespace Go.Proofs.YtgegmampnpgcaaaDoor
open Go.RowKit

theorem Kp.grownBy {r : Nat} {w w' : World} (h : Kp r w w') : w.grownBy w' (some r) := ⟨h.os, h.tape, h.output, h.size, fun k hk hne => h.block k hk (fun e => hne (by rw [e]))⟩
theorem below_grownBy {w w' : World} (h : Below w.heap.size w w') : w.grownBy w' none := ⟨h.os, h.tape, h.output, h.size, fun k hk _ => h.block k hk⟩
theorem own_kp {w w' : World} {base e size n r : Nat} {v : Value} {xs : List Value} (h : w.ownsRow base e size v n xs) (K : Kp r w w') (hr : r < base) : w'.ownsRow base e size v n xs := by
  refine h.kept K.grownBy ?_
  cases hv : v.ownBlock with
  | none => exact Or.inl rfl
  | some g => have := (h.lt g hv).1; exact Or.inr (by intro e; injection e; omega)
theorem own_below {w w' : World} {base e size n : Nat} {v : Value} {xs : List Value} (h : w.ownsRow base e size v n xs) (K : Below w.heap.size w w') : w'.ownsRow base e size v n xs := by
  refine h.kept (below_grownBy K) ?_
  cases hv : v.ownBlock with
  | none => exact Or.inl rfl
  | some g => exact Or.inr (by intro e; cases e)
/-- A store into a block below the base. -/
theorem own_set {w : World} {base e size n : Nat} {v : Value} {xs : List Value} (h : w.ownsRow base e size v n xs) {a : Addr} (ha : a.block < base) (u : Value) : (w.setCell a u).ownsRow base e size v n xs :=
  ownsRow_setCell_below h ha u
/-- An append to one's own row leaves all that lies below the row's base. -/
theorem own_grown {w w' : World} {base e size n : Nat} {v : Value} {xs : List Value} (h : w.ownsRow base e size v n xs) (hg : w.grownBy w' v.ownBlock) (hB : base ≤ w.heap.size) : Below base w w' :=
  (Below.refl base w).grown hg hB (fun k hk => (h.lt k hk).1)

theorem Fr.belowB {r B : Nat} {W w w' : World} {L : List (Nat × List Value)} (h : Fr r W w L) (K : Below B w w') (hW : W.heap.size ≤ B) (hL : ∀ p ∈ L, p.1 < B) : Fr r W w' L :=
  ⟨⟨K.os.trans h.kp.os, K.tape.trans h.kp.tape, K.output.trans h.kp.output, Nat.le_trans h.kp.size K.size, fun i hi hr => (K.block i (by omega)).trans (h.kp.block i hi hr)⟩, fun p hp => by
    obtain ⟨h1, h2, h3, h4⟩ := h.own p hp
    have hlt := hL p hp
    exact ⟨At.move (fun o v hv => (K.cell (p := ⟨p.1, o, none⟩) hlt).trans hv) (fun o v _ => K.frozen (p := ⟨p.1, o, none⟩) hlt) _ _ h1, h2, h3, Nat.lt_of_lt_of_le h4 K.size⟩⟩
theorem Fb.belowB {B : Nat} {W w w' : World} {L : List (Nat × List Value)} (h : Fb W w L) (K : Below B w w') (hW : W.heap.size ≤ B) (hL : ∀ p ∈ L, p.1 < B) : Fb W w' L :=
  ⟨h.kp.trans (K.mono hW), fun p hp => by
    obtain ⟨h1, h2, h3⟩ := h.own p hp
    have hlt := hL p hp
    exact ⟨At.move (fun o v hv => (K.cell (p := ⟨p.1, o, none⟩) hlt).trans hv) (fun o v _ => K.frozen (p := ⟨p.1, o, none⟩) hlt) _ _ h1, h2, Nat.lt_of_lt_of_le h3 K.size⟩⟩

/-- The row of a value lies in a block from B on. -/
def Fresh (B : Nat) (v : Value) : Prop := ∀ g, v.ownBlock = some g → B ≤ g
theorem Fresh.mono {B B' : Nat} {v : Value} (h : Fresh B v) (hB : B' ≤ B) : Fresh B' v := fun g hg => Nat.le_trans hB (h g hg)
theorem fresh_own {w : World} {base e size n : Nat} {v : Value} {xs : List Value} (h : w.ownsRow base e size v n xs) : Fresh base v := fun g hg => (h.lt g hg).1
theorem fresh_nil (B n c : Nat) : Fresh B (.slice none n c) := fun g hg => by simp [Value.ownBlock] at hg

theorem le_maxLen {n : Nat} (h : n ≤ 1000000000) : n ≤ maxLen := by unfold maxLen; omega
theorem lt_maxLen {n : Nat} (h : n ≤ 1000000000) : n < maxLen := by unfold maxLen; omega
theorem addr_add (g n : Nat) : (⟨g, 0, none⟩ : Addr).add n = ⟨g, n, none⟩ := by
  unfold Addr.add; split <;> simp_all
theorem flat_get {α : Type} {enc : α → List Value} {sz : Nat} (hs : ∀ x, (enc x).length = sz) : ∀ (L : List α) (k : Nat) (x : α) (j : Nat) (u : Value), L[k]? = some x → (enc x)[j]? = some u → (L.flatMap enc)[k * sz + j]? = some u
  | [], k, x, j, u, h, _ => by simp at h
  | y :: L, 0, x, j, u, h, hu => by
    simp at h; subst h
    have hj : j < (enc y).length := (List.getElem?_eq_some_iff.1 hu).1
    rw [List.flatMap_cons, Nat.zero_mul, Nat.zero_add, List.getElem?_append_left hj]; exact hu
  | y :: L, k + 1, x, j, u, h, hu => by
    have ih := flat_get hs L k x j u (by simpa using h) hu
    rw [List.flatMap_cons, List.getElem?_append_right (by rw [hs, Nat.succ_mul]; omega), hs]
    rw [show (k + 1) * sz + j - sz = k * sz + j by rw [Nat.succ_mul]; omega]; exact ih
theorem Rows.of_own {α : Type} {w : World} {base e sz n : Nat} {v : Value} {xs : List Value} {enc : α → List Value} {L : List α} (h : w.ownsRow base e sz v n xs) (hs : ∀ x, (enc x).length = sz) (hn : L.length = n) (hx : xs = L.flatMap enc) : Rows w v sz enc L := by
  have hc := fun g hg => h.cells (g := g) hg
  obtain ⟨h1, ⟨rfl, h2⟩ | ⟨g, cap, cur, rfl, h2, h3, h4, h5, h6, h7⟩⟩ := h
  · have : L = [] := by cases L with | nil => rfl | cons y L => simp at hn; omega
    subst this; exact Rows.nil _ _ _ (by omega) _ _
  · subst hn
    refine ⟨some ⟨g, 0, none⟩, cap, rfl, h4, by unfold maxLen at h5; omega, fun k x hk => ⟨g, 0, rfl, fun j u hj => ?_⟩⟩
    have := hc g rfl (k * sz + j) u (by rw [hx]; exact flat_get hs L k x j u hk hj)
    rw [addr_add] at this
    rw [Nat.zero_add]; exact this
theorem flat_snoc {α : Type} (enc : α → List Value) (L : List α) (x : α) : L.flatMap enc ++ enc x = (L ++ [x]).flatMap enc := by simp
theorem Rows.kp {α : Type} {w w' : World} {v : Value} {sz r : Nat} {enc : α → List Value} {L : List α} (h : Rows w v sz enc L) (K : Kp r w w') {B : Nat} (hf : Fresh B v) (hr : r < B) : Rows w' v sz enc L := by
  obtain ⟨ao, cap, e, h1, h2, h3⟩ := h.ex
  refine ⟨ao, cap, e, h1, h2, fun k x hk => ?_⟩
  obtain ⟨b, off, e1, hc⟩ := h3 k x hk
  exact ⟨b, off, e1, fun j u hj => K.cell (hc j u hj) (by have := hf b (by rw [e, e1]; rfl); dsimp only; omega)⟩
theorem cells_new (w : World) (vs : List Value) (T : TypeId) : ∀ j u, vs[j]? = some u → (w.alloc (.cells vs.toArray T)).cell? ((⟨w.heap.size, 0, none⟩ : Addr).add j) = some u := by
  intro j u h
  rw [addr_add]
  have e : vs.toArray[j]? = some u := by simpa using h
  simp [e]
theorem cells_new' (w : World) (vs : List Value) (T : TypeId) {b : Nat} (hb : b = w.heap.size) : ∀ j u, vs[j]? = some u → (w.alloc (.cells vs.toArray T)).cell? ((⟨b, 0, none⟩ : Addr).add j) = some u := by
  subst hb; exact cells_new w vs T
theorem Rows.alloc {α : Type} {w : World} {v : Value} {sz : Nat} {enc : α → List Value} {L : List α} (h : Rows w v sz enc L) (o : Obj) : Rows (w.alloc o) v sz enc L := h.below ((Below.refl _ _).alloc (Nat.le_refl _) _)
theorem Rows.drew {α : Type} {w : World} {v : Value} {sz : Nat} {enc : α → List Value} {L : List α} (h : Rows w v sz enc L) : Rows w.drew v sz enc L := h.below (Below.refl _ _).drew
theorem Rows.set {α : Type} {w : World} {v : Value} {sz : Nat} {enc : α → List Value} {L : List α} (h : Rows w v sz enc L) {B : Nat} (hf : Fresh B v) {p : Addr} (hp : p.block < B) (u : Value) : Rows (w.setCell p u) v sz enc L := by
  obtain ⟨ao, cap, e, h1, h2, h3⟩ := h.ex
  refine ⟨ao, cap, e, h1, h2, fun k x hk => ?_⟩
  obtain ⟨b, off, e1, hc⟩ := h3 k x hk
  exact ⟨b, off, e1, fun j u hj => (World.cell?_setCell_other _ _ _ _ (by have := hf b (by rw [e, e1]; rfl); intro e2; rw [e2] at hp; dsimp only at hp; omega)).trans (hc j u hj)⟩
theorem Rows.setO {α : Type} {w : World} {v : Value} {sz : Nat} {enc : α → List Value} {L : List α} (h : Rows w v sz enc L) {p : Addr} (hp : v.ownBlock ≠ some p.block) (u : Value) : Rows (w.setCell p u) v sz enc L := by
  obtain ⟨ao, cap, e, h1, h2, h3⟩ := h.ex
  refine ⟨ao, cap, e, h1, h2, fun k x hk => ?_⟩
  obtain ⟨b, off, e1, hc⟩ := h3 k x hk
  exact ⟨b, off, e1, fun j u hj => (World.cell?_setCell_other _ _ _ _ (by intro e2; rw [e, e1, e2] at hp; exact hp rfl)).trans (hc j u hj)⟩
theorem Rows.lt {α : Type} {w : World} {v : Value} {sz : Nat} {enc : α → List Value} {L : List α} (h : Rows w v sz enc L) (hs : ∀ x, 0 < (enc x).length) (hL : 0 < L.length) : ∀ g, v.ownBlock = some g → g < w.heap.size := by
  obtain ⟨ao, cap, rfl, h1, h2, h3⟩ := h.ex
  obtain ⟨b, off, rfl, hc⟩ := h3 0 L[0] (List.getElem?_eq_getElem hL)
  intro g hg
  injection hg with hg; subst hg
  have := hs L[0]
  have := World.block_lt_of_cell? w _ (hc 0 _ (List.getElem?_eq_getElem this))
  exact this
theorem Rows.get {α : Type} {w : World} {b off n cap sz : Nat} {enc : α → List Value} {L : List α} (h : Rows w (.slice (some ⟨b, off, none⟩) n cap) sz enc L) {k : Nat} {x : α} (hk : L[k]? = some x) {j : Nat} {u : Value} (hu : (enc x)[j]? = some u) : w.cell? ⟨b, off + k * sz + j, none⟩ = some u := by
  obtain ⟨ao, cap', e, h1, h2, h3⟩ := h.ex
  obtain ⟨b', off', rfl, hc⟩ := h3 k x hk
  injection e with e1 e2 e3; injection e1 with e1; injection e1 with e4 e5; subst e4; subst e5
  exact hc j u hu
theorem Below.keep2 {w w' : World} (hb : Below w.heap.size w w') {a b : Addr} {u v : Value} (h : w.cell? a = some u ∧ w.cell? b = some v) : w'.cell? a = some u ∧ w'.cell? b = some v :=
  ⟨(hb.cell (World.block_lt_of_cell? _ _ h.1)).trans h.1, (hb.cell (World.block_lt_of_cell? _ _ h.2)).trans h.2⟩
theorem alloc2w {w : World} {a b : Addr} {u v : Value} (h : w.cell? a = some u ∧ w.cell? b = some v) (o : Obj) : (w.alloc o).cell? a = some u ∧ (w.alloc o).cell? b = some v :=
  Below.keep2 ((Below.refl w.heap.size w).alloc (Nat.le_refl _) o) h
theorem set2w {w : World} {a b : Addr} {u v : Value} (h : w.cell? a = some u ∧ w.cell? b = some v) (p : Addr) (x : Value) (hp : p.block ≠ a.block) (hp' : p.block ≠ b.block) : (w.setCell p x).cell? a = some u ∧ (w.setCell p x).cell? b = some v :=
  ⟨(World.cell?_setCell_other _ _ _ _ (fun e => hp (by rw [e]))).trans h.1, (World.cell?_setCell_other _ _ _ _ (fun e => hp' (by rw [e]))).trans h.2⟩
theorem Below.v2w {w w' : World} (hb : Below w.heap.size w w') {a b : Addr} {u v : Value} (h : w.cell? a = some u ∧ w.cell? b = some v) : w'.cell? a = some u ∧ w'.cell? b = some v :=
  ⟨(hb.cell (World.block_lt_of_cell? _ _ h.1)).trans h.1, (hb.cell (World.block_lt_of_cell? _ _ h.2)).trans h.2⟩
theorem Kp.v2w {r : Nat} {w w' : World} (hb : Kp r w w') {a b : Addr} {u v : Value} (h : w.cell? a = some u ∧ w.cell? b = some v) (hr : a.block ≠ r) (hr' : b.block ≠ r) : w'.cell? a = some u ∧ w'.cell? b = some v :=
  ⟨hb.cell h.1 hr, hb.cell h.2 hr'⟩
end Go.Proofs.YtgegmampnpgcaaaDoor
