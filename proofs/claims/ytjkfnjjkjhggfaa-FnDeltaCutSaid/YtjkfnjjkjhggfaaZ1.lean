/- General lemmas: regions that draw their order, over the class of worlds that keep all old memory. The reader of a code: what a pick leaves. Plain facts on worlds. One's own blocks, kept through calls: plain facts on worlds. -/
import Derived.WalkKit
import Derived.WalkSpells
import Derived.WalkLawsBesides
import Derived.BigQuiet
import Derived.Deep.QuietTactic
import Derived.Lib.Hide
import Derived.Deep.RegionWith
import Derived.Deep.RegionHeld3
import Derived.Deep.LoopGhost
import Derived.Deep.DeepMust
import Derived.Deep.DeepFit
import Derived.Deep.Cut
import Derived.Deep.CutBlock
import Derived.Deep.DeepCutAuto
import Derived.Deep.Light
import Derived.Laws.Bits64
set_option linter.unusedSimpArgs false
set_option linter.unusedVariables false
namespace Go.Proofs.Ytjkfnjjkjhggfaa
open Go.RowKit

theorem ret_bool {a b : Bool} (h : a = b) : Ending.returned (.bool a) = .returned (.bool b) := by rw [h]
theorem ret_int {k : IntKind} {a b : Int} (h : a = b) : Ending.returned (.int k a) = .returned (.int k b) := by rw [h]

/-- A world in which all that lies below block B of w is as it was. -/
structure Cl (B : Nat) (w : World) where
  W : World
  below : Below B w W

instance (B : Nat) (w : World) : Nonempty (Cl B w) := ⟨⟨w, Below.refl _ _⟩⟩

theorem Cl.cell {w : World} (x : Cl w.heap.size w) {a : Addr} {v : Value} (h : w.cell? a = some v) : x.W.cell? a = some v :=
  (x.below.cell (World.block_lt_of_cell? w a h)).trans h
theorem Cl.frozen {w : World} (x : Cl w.heap.size w) {a : Addr} (h : a.block < w.heap.size) {b : Bool} (hf : w.frozen? a = b) : x.W.frozen? a = b :=
  (x.below.frozen h).trans hf

/-- A region that draws its order, walked once in the order of the text: each operation reads, or calls what keeps old memory. -/
theorem wp_region_new {P : Program} {id : Nat} {Q : Exit → Act → World → Prop} {a : Act} {w : World} {l : List Oper} (hm : P.follows .mixedOrders = true) (hB : Region.lexB .any l.toArray = true)
    (h : wpQuiet P l.toArray (fun w' => ∃ x : Cl w.heap.size w, w' = x.W) (fun a' => ∀ x : Cl w.heap.size w, Q .normal a' x.W) l a) : (Code.region id l.toArray true).wp P Q a w := by
  refine wp_region_quiet (C := fun w' => ∃ x : Cl w.heap.size w, w' = x.W) hm hB ⟨⟨w.drew, (Below.refl _ _).drew⟩, rfl⟩ ?_
  have e : (fun a' => ∀ w', (∃ x : Cl w.heap.size w, w' = x.W) → Q .normal a' w') = (fun a' => ∀ x : Cl w.heap.size w, Q .normal a' x.W) := by
    funext a'; simp
  simpa [e] using h

/-- The same for operations in the order of the text. -/
theorem wpOps_quiet {P : Program} {ops : Array Oper} {C : World → Prop} {Q : Exit → Act → World → Prop} (n : Nat) :
    ∀ (i : Nat) (a : Act) (w : World), i + n = ops.size → C w → wpQuiet P ops C (fun a' => ∀ w', C w' → Q .normal a' w') (ops.toList.drop i) a → wpOps P ops Q (List.range' i n) a w := by
  induction n with
  | zero =>
    intro i a w hi hC h
    have e : ops.toList.drop i = [] := by simp; omega
    rw [e] at h
    simp only [List.range'_zero, wpOps]
    exact h w hC
  | succ n ih =>
    intro i a w hi hC h
    have hlt : i < ops.toList.length := by simp; omega
    rw [List.drop_eq_getElem_cons hlt] at h
    simp only [wpQuiet] at h
    rw [List.range'_succ]
    simp only [wpOps]
    have ho : ops[i]? = some (ops.toList[i]) := by simp
    rw [ho]
    dsimp only
    by_cases hw : Region.wanted (ops.toList[i]) (yielded ops a.tmps) = true
    · rw [if_pos hw] at h ⊢
      exact Or.inl (Oper.wp_of_quiet hC (fun a' w' hC' hk => ih (i + 1) a' w' (by omega) hC' hk) h)
    · rw [if_neg hw] at h ⊢
      exact ih (i + 1) _ w (by omega) hC h
theorem wp_region_lex {P : Program} {id : Nat} {Q : Exit → Act → World → Prop} {a : Act} {w : World} {l : List Oper}
    (h : wpQuiet P l.toArray (fun w' => ∃ x : Cl w.heap.size w, w' = x.W) (fun a' => ∀ x : Cl w.heap.size w, Q .normal a' x.W) l a) : (Code.region id l.toArray false).wp P Q a w := by
  refine wp_region ?_
  rw [List.range_eq_range']
  refine wpOps_quiet (C := fun w' => ∃ x : Cl w.heap.size w, w' = x.W) _ 0 a w (by simp) ⟨⟨w, Below.refl _ _⟩, rfl⟩ ?_
  have e : (fun a' => ∀ w', (∃ x : Cl w.heap.size w, w' = x.W) → Q .normal a' w') = (fun a' => ∀ x : Cl w.heap.size w, Q .normal a' x.W) := by
    funext a'; simp
  simpa [e] using h

theorem wpQuiet_more {P : Program} {ops : Array Oper} {C : World → Prop} {Q : Act → Prop} {o : Oper} {rest : List Oper} {a : Act} (h : wpQuiet P ops C Q (o :: rest) a) : wpQuiet P ops C Q (o :: rest) a := h

/-- A callee that keeps old memory, met in such a region. -/
theorem Calls.cl {P : Program} {f : FuncId} {args : Array Value} {w : World} {x : Cl w.heap.size w} {v : Value}
    (h : Calls P f args x.W fun e w' => e = .returned v ∧ Below x.W.heap.size x.W w') : Calls P f args x.W fun e w'' => e = .returned v ∧ ∃ y : Cl w.heap.size w, w'' = y.W :=
  h.mono fun _ w' ⟨he, hw⟩ => ⟨he, ⟨w', x.below.trans (hw.mono x.below.size)⟩, rfl⟩
end Go.Proofs.Ytjkfnjjkjhggfaa
set_option linter.unusedSimpArgs false
set_option linter.unusedVariables false
namespace Go.Proofs.Ytjkfnjjkjhggfaa
open Go.RowKit

theorem xor_i64 (a : Int) (h0 : 0 ≤ a) (h1 : a < 9223372036854775808) : 0 ≤ bits .xor .i64 a (a / 64) ∧ bits .xor .i64 a (a / 64) < 9223372036854775808 := by
  obtain ⟨n, rfl⟩ := Int.eq_ofNat_of_zero_le h0
  have e : ((n : Int) / 64) = ((n / 64 : Nat) : Int) := by omega
  have h2 : (BitVec.ofInt 64 (n : Int)).toNat = n := by
    rw [BitVec.ofInt_natCast, BitVec.toNat_ofNat]; exact Nat.mod_eq_of_lt (by omega)
  have h3 : (BitVec.ofInt 64 ((n / 64 : Nat) : Int)).toNat = n / 64 := by
    rw [BitVec.ofInt_natCast, BitVec.toNat_ofNat]; exact Nat.mod_eq_of_lt (by omega)
  have hx : n ^^^ (n / 64) < 2 ^ 63 := Nat.xor_lt_two_pow (by omega) (by omega)
  rw [e]
  have : bits .xor .i64 (n : Int) ((n / 64 : Nat) : Int) = ((n ^^^ (n / 64) : Nat) : Int) := by
    show IntKind.i64.wrap ((BitVec.ofInt 64 (n : Int) ^^^ BitVec.ofInt 64 ((n / 64 : Nat) : Int)).toNat : Int) = _
    rw [BitVec.toNat_xor, h2, h3]
    rw [IntKind.wrap_i64]; omega
  rw [this]; omega

/-- A row of bytes that can be read: n of them, in a block below B. -/
structure Bytes (w : World) (v : Value) (n B : Nat) : Prop where
  le : n ≤ 2000
  has : ∃ ao cap, v = .slice ao n cap ∧ (0 < n → ∃ (b off : Nat) (zs : Nat → Int), ao = some ⟨b, off, none⟩ ∧ b < B ∧ ∀ i : Nat, i < n → w.cell? ⟨b, off + i, none⟩ = some (.int .u8 (zs i)) ∧ 0 ≤ zs i ∧ zs i ≤ 255)

/-- The reader at block r stands at place k. -/
structure Rd (w : World) (r : Nat) (k : Nat) : Prop where
  live : w.frozen? ⟨r, 1, none⟩ = false
  at1 : w.cell? ⟨r, 1, none⟩ = some (.int .i64 k)
  at0 : ∃ v n, w.cell? ⟨r, 0, none⟩ = some v ∧ Bytes w v n r

theorem Rd.lt {w : World} {r k : Nat} (h : Rd w r k) : r < w.heap.size := World.block_lt_of_cell? w _ h.at1

/-- Old memory is as it was, but for the reader's own block. -/
structure Kp (r : Nat) (w w' : World) : Prop where
  os : w'.os = w.os
  tape : w'.tape = w.tape
  output : w'.output = w.output
  size : w.heap.size ≤ w'.heap.size
  block : ∀ k, k < w.heap.size → k ≠ r → w'.heap[k]? = w.heap[k]?

theorem Kp.refl (r : Nat) (w : World) : Kp r w w := ⟨rfl, rfl, rfl, Nat.le_refl _, fun _ _ _ => rfl⟩
theorem Kp.trans {r : Nat} {a b c : World} (h : Kp r a b) (k : Kp r b c) : Kp r a c :=
  ⟨k.os.trans h.os, k.tape.trans h.tape, k.output.trans h.output, Nat.le_trans h.size k.size, fun i hi hr => (k.block i (Nat.lt_of_lt_of_le hi h.size) hr).trans (h.block i hi hr)⟩
theorem Kp.of_below {r : Nat} {a b c : World} (h : Kp r a b) (k : Below b.heap.size b c) : Kp r a c :=
  h.trans ⟨k.os, k.tape, k.output, k.size, fun i hi _ => k.block i hi⟩
theorem Kp.below {r B : Nat} {a b : World} (h : Kp r a b) (hr : B ≤ r) (hB : B ≤ a.heap.size) : Below B a b :=
  ⟨h.os, h.tape, h.output, h.size, fun i hi => h.block i (by omega) (by omega)⟩
theorem Kp.drew {r : Nat} {a w : World} (h : Kp r a w) : Kp r a w.drew := ⟨h.os, h.tape, h.output, h.size, h.block⟩
theorem Kp.drewN {r n : Nat} {a w : World} (h : Kp r a w) : Kp r a (w.drewN n) := ⟨h.os, h.tape, h.output, h.size, h.block⟩
theorem Kp.alloc {r : Nat} {a w : World} (h : Kp r a w) (o : Obj) : Kp r a (w.alloc o) :=
  ⟨h.os, h.tape, h.output, by have := h.size; simp; omega, fun i hi hr => (Below.heap_alloc w o i (Nat.lt_of_lt_of_le hi h.size)).trans (h.block i hi hr)⟩
theorem Kp.setCell {r : Nat} {a w : World} (h : Kp r a w) {p : Addr} (hp : a.heap.size ≤ p.block ∨ p.block = r) (u : Value) : Kp r a (w.setCell p u) :=
  ⟨h.os, h.tape, h.output, by have := h.size; simpa [World.setCell] using this, fun i hi hr => (Below.heap_setCell w p u i (by omega)).trans (h.block i hi hr)⟩
theorem Kp.cell {r : Nat} {w w' : World} (h : Kp r w w') {a : Addr} {v : Value} (hv : w.cell? a = some v) (hr : a.block ≠ r) : w'.cell? a = some v :=
  (World.cell?_of_block (w := w) (h.block a.block (World.block_lt_of_cell? w a hv) hr)).trans hv
theorem Kp.frozen {r : Nat} {w w' : World} (h : Kp r w w') {a : Addr} (ha : a.block < w.heap.size) (hr : a.block ≠ r) : w'.frozen? a = w.frozen? a :=
  World.frozen?_of_block (w := w) (h.block a.block ha hr)

/-- A block of two cells of one's own, in its four facts. -/
theorem Kp.blk2 {r : Nat} {w w' : World} (h : Kp r w w') {b : Nat} {v0 v1 : Value} (o : w.cell? ⟨b, 0, none⟩ = some v0 ∧ w.cell? ⟨b, 1, none⟩ = some v1 ∧ w.frozen? ⟨b, 0, none⟩ = false ∧ w.frozen? ⟨b, 1, none⟩ = false) (hr : b ≠ r) :
    w'.cell? ⟨b, 0, none⟩ = some v0 ∧ w'.cell? ⟨b, 1, none⟩ = some v1 ∧ w'.frozen? ⟨b, 0, none⟩ = false ∧ w'.frozen? ⟨b, 1, none⟩ = false :=
  have hb := World.block_lt_of_cell? w _ o.1
  ⟨h.cell o.1 hr, h.cell o.2.1 hr, (h.frozen (a := ⟨b, 0, none⟩) hb hr).trans o.2.2.1, (h.frozen (a := ⟨b, 1, none⟩) hb hr).trans o.2.2.2⟩
theorem new2 (w : World) (v0 v1 : Value) (T : TypeId) : (w.alloc (.cells #[v0, v1] T)).cell? ⟨w.heap.size, 0, none⟩ = some v0 ∧ (w.alloc (.cells #[v0, v1] T)).cell? ⟨w.heap.size, 1, none⟩ = some v1 ∧ (w.alloc (.cells #[v0, v1] T)).frozen? ⟨w.heap.size, 0, none⟩ = false ∧ (w.alloc (.cells #[v0, v1] T)).frozen? ⟨w.heap.size, 1, none⟩ = false := by simp

theorem set2 {w : World} {b : Nat} {v0 v1 : Value} (o : w.cell? ⟨b, 0, none⟩ = some v0 ∧ w.cell? ⟨b, 1, none⟩ = some v1 ∧ w.frozen? ⟨b, 0, none⟩ = false ∧ w.frozen? ⟨b, 1, none⟩ = false) (p : Addr) (u : Value) (hp : p.block ≠ b) :
    (w.setCell p u).cell? ⟨b, 0, none⟩ = some v0 ∧ (w.setCell p u).cell? ⟨b, 1, none⟩ = some v1 ∧ (w.setCell p u).frozen? ⟨b, 0, none⟩ = false ∧ (w.setCell p u).frozen? ⟨b, 1, none⟩ = false :=
  ⟨(World.cell?_setCell_other _ _ _ _ (fun e => hp (by rw [e]))).trans o.1, (World.cell?_setCell_other _ _ _ _ (fun e => hp (by rw [e]))).trans o.2.1, (World.frozen?_setCell _ _ _ _).trans o.2.2.1, (World.frozen?_setCell _ _ _ _).trans o.2.2.2⟩
/-- Both cells written. -/
theorem put2 {w : World} {b : Nat} {v0 v1 : Value} (o : w.cell? ⟨b, 0, none⟩ = some v0 ∧ w.cell? ⟨b, 1, none⟩ = some v1 ∧ w.frozen? ⟨b, 0, none⟩ = false ∧ w.frozen? ⟨b, 1, none⟩ = false) (u0 u1 : Value) :
    ((w.setCell ⟨b, 0, none⟩ u0).setCell ⟨b, 1, none⟩ u1).cell? ⟨b, 0, none⟩ = some u0 ∧ ((w.setCell ⟨b, 0, none⟩ u0).setCell ⟨b, 1, none⟩ u1).cell? ⟨b, 1, none⟩ = some u1 ∧ ((w.setCell ⟨b, 0, none⟩ u0).setCell ⟨b, 1, none⟩ u1).frozen? ⟨b, 0, none⟩ = false ∧ ((w.setCell ⟨b, 0, none⟩ u0).setCell ⟨b, 1, none⟩ u1).frozen? ⟨b, 1, none⟩ = false := by
  refine ⟨?_, ?_, ?_, ?_⟩
  · rw [World.cell?_setCell_other _ _ _ _ (by simp)]; exact World.cell?_setCell_same _ _ _ o.1
  · exact World.cell?_setCell_same _ _ _ ((World.cell?_setCell_other _ _ _ _ (by simp)).trans o.2.1)
  · simpa using o.2.2.1
  · simpa using o.2.2.2
/-- The first cell written. -/
theorem put2a {w : World} {b : Nat} {v0 v1 : Value} (o : w.cell? ⟨b, 0, none⟩ = some v0 ∧ w.cell? ⟨b, 1, none⟩ = some v1 ∧ w.frozen? ⟨b, 0, none⟩ = false ∧ w.frozen? ⟨b, 1, none⟩ = false) (u0 : Value) :
    (w.setCell ⟨b, 0, none⟩ u0).cell? ⟨b, 0, none⟩ = some u0 ∧ (w.setCell ⟨b, 0, none⟩ u0).cell? ⟨b, 1, none⟩ = some v1 ∧ (w.setCell ⟨b, 0, none⟩ u0).frozen? ⟨b, 0, none⟩ = false ∧ (w.setCell ⟨b, 0, none⟩ u0).frozen? ⟨b, 1, none⟩ = false :=
  ⟨World.cell?_setCell_same _ _ _ o.1, (World.cell?_setCell_other _ _ _ _ (by simp)).trans o.2.1, (World.frozen?_setCell _ _ _ _).trans o.2.2.1, (World.frozen?_setCell _ _ _ _).trans o.2.2.2⟩

theorem Bytes.move {w w' : World} {v : Value} {n B : Nat} (h : Bytes w v n B) (hk : ∀ a u, a.block < B → w.cell? a = some u → w'.cell? a = some u) : Bytes w' v n B := by
  refine ⟨h.le, ?_⟩
  obtain ⟨ao, cap, e, hz⟩ := h.has
  refine ⟨ao, cap, e, fun hn => ?_⟩
  obtain ⟨b, off, zs, e1, hb, hc⟩ := hz hn
  exact ⟨b, off, zs, e1, hb, fun i hi => ⟨hk _ _ hb (hc i hi).1, (hc i hi).2⟩⟩

theorem Rd.move {w w' : World} {r k : Nat} (h : Rd w r k) (hk : ∀ a u, a.block ≤ r → w.cell? a = some u → w'.cell? a = some u) (hf : w'.frozen? ⟨r, 1, none⟩ = w.frozen? ⟨r, 1, none⟩) : Rd w' r k := by
  obtain ⟨v, n, h0, hb⟩ := h.at0
  exact ⟨hf.trans h.live, hk _ _ (Nat.le_refl _) h.at1, v, n, hk _ _ (Nat.le_refl _) h0, hb.move fun a u ha hu => hk a u (Nat.le_of_lt ha) hu⟩

theorem Rd.below {w w' : World} {r k B : Nat} (h : Rd w r k) (hb : Below B w w') (hB : r < B) : Rd w' r k :=
  h.move (fun _ _ ha hu => (hb.cell (by omega)).trans hu) (hb.frozen (by exact hB))
theorem Rd.alloc {w : World} {r k : Nat} (h : Rd w r k) (o : Obj) : Rd (w.alloc o) r k :=
  h.below (B := w.heap.size) ((Below.refl _ _).alloc (Nat.le_refl _) o) h.lt
theorem Rd.drew {w : World} {r k : Nat} (h : Rd w r k) : Rd w.drew r k := h.move (fun _ _ _ hu => hu) rfl
theorem Rd.drewN {w : World} {r k n : Nat} (h : Rd w r k) : Rd (w.drewN n) r k := h.move (fun _ _ _ hu => hu) rfl
theorem Rd.setCell {w : World} {r k : Nat} (h : Rd w r k) {p : Addr} (hp : r < p.block) (u : Value) : Rd (w.setCell p u) r k :=
  h.below (B := r + 1) ((Below.refl _ _).setCell hp u) (by omega)
/-- One step of the reader itself. -/
theorem Rd.step {w : World} {r k : Nat} (h : Rd w r k) : Rd (w.setCell ⟨r, 1, none⟩ (.int .i64 ((k : Int) + 1))) r (k + 1) := by
  obtain ⟨v, n, h0, hb⟩ := h.at0
  have e : (.int .i64 ((k : Int) + 1) : Value) = .int .i64 ((k + 1 : Nat) : Int) := by simp
  refine ⟨?_, ?_, v, n, ?_, ?_⟩
  · rw [World.frozen?_setCell]; exact h.live
  · rw [World.cell?_setCell_same _ _ _ h.at1, e]
  · rw [World.cell?_setCell_other _ _ _ _ (by simp)]; exact h0
  · exact hb.move fun a u ha hu => by rw [World.cell?_setCell_other _ _ _ _ (by rintro rfl; simp at ha)]; exact hu
theorem Rd.opened {w : World} {v : Value} {n : Nat} (h : Bytes w v n w.heap.size) (T : TypeId) : Rd (w.alloc (.cells #[v, .int .i64 0] T)) w.heap.size 0 := by
  refine ⟨by simp, by simp, v, n, by simp, h.move fun a u ha hu => ?_⟩
  exact ((Below.refl w.heap.size w).alloc (Nat.le_refl _) _).cell ha |>.trans hu

/-- The code that came in: bytes of a slice. -/
structure Given (w : World) (v : Value) : Prop where
  has : ∃ ao n cap, v = .slice ao n cap ∧ n ≤ cap ∧ cap ≤ 9223372036854775807 ∧ (0 < n → ∃ (b off : Nat) (zs : Nat → Int), ao = some ⟨b, off, none⟩ ∧ b < w.heap.size ∧ ∀ i : Nat, i < n → w.cell? ⟨b, off + i, none⟩ = some (.int .u8 (zs i)) ∧ 0 ≤ zs i ∧ zs i ≤ 255)
end Go.Proofs.Ytjkfnjjkjhggfaa
set_option linter.unusedSimpArgs false
set_option linter.unusedVariables false
namespace Go.Proofs.Ytjkfnjjkjhggfaa
open Go.RowKit

/-- From offset o on block b holds these values, and may be written. -/
def At (w : World) (b : Nat) : Nat → List Value → Prop
  | _, [] => True
  | o, v :: vs => w.cell? ⟨b, o, none⟩ = some v ∧ w.frozen? ⟨b, o, none⟩ = false ∧ At w b (o + 1) vs

theorem At.move {w w' : World} {b : Nat} (hc : ∀ o v, w.cell? ⟨b, o, none⟩ = some v → w'.cell? ⟨b, o, none⟩ = some v) (hf : ∀ o v, w.cell? ⟨b, o, none⟩ = some v → w'.frozen? ⟨b, o, none⟩ = w.frozen? ⟨b, o, none⟩) :
    ∀ (vs : List Value) (o : Nat), At w b o vs → At w' b o vs
  | [], _, _ => trivial
  | _ :: vs, o, ⟨h1, h2, h3⟩ => ⟨hc o _ h1, (hf o _ h1).trans h2, At.move hc hf vs (o + 1) h3⟩

/-- The state of a function's own memory: what lies in each of its blocks; all older memory but the reader's is as it was. -/
structure Fr (r : Nat) (W w : World) (L : List (Nat × List Value)) : Prop where
  kp : Kp r W w
  own : ∀ p ∈ L, At w p.1 0 p.2 ∧ W.heap.size ≤ p.1 ∧ p.1 ≠ r ∧ p.1 < w.heap.size

theorem Fr.start (r : Nat) (w : World) : Fr r w w [] := ⟨Kp.refl _ _, fun _ h => by cases h⟩
theorem Fr.call {r : Nat} {W w w' : World} {L : List (Nat × List Value)} (h : Fr r W w L) (K : Kp r w w') : Fr r W w' L :=
  ⟨h.kp.trans K, fun p hp => by
    obtain ⟨h1, h2, h3, h4⟩ := h.own p hp
    exact ⟨At.move (fun o v hv => K.cell hv h3) (fun o v hv => K.frozen (World.block_lt_of_cell? w _ hv) h3) _ _ h1, h2, h3, Nat.lt_of_lt_of_le h4 K.size⟩⟩
theorem Fr.below {r : Nat} {W w w' : World} {L : List (Nat × List Value)} (h : Fr r W w L) (K : Below w.heap.size w w') : Fr r W w' L :=
  h.call ((Kp.refl r w).of_below K)
theorem Fr.drew {r : Nat} {W w : World} {L : List (Nat × List Value)} (h : Fr r W w L) : Fr r W w.drew L := h.call (Kp.refl r w).drew
theorem Fr.drewN {r n : Nat} {W w : World} {L : List (Nat × List Value)} (h : Fr r W w L) : Fr r W (w.drewN n) L := h.call (Kp.refl r w).drewN
theorem Fr.other {r : Nat} {W w : World} {L : List (Nat × List Value)} (h : Fr r W w L) (o : Obj) : Fr r W (w.alloc o) L := h.call ((Kp.refl r w).alloc o)
theorem At.new (w : World) (T : TypeId) (cs : Array Value) : ∀ (vs : List Value) (o : Nat), (∀ i, i < vs.length → cs[o + i]? = vs[i]?) → At (w.alloc (.cells cs T)) w.heap.size o vs
  | [], _, _ => trivial
  | v :: vs, o, h => by
    refine ⟨?_, by simp, At.new w T cs vs (o + 1) fun i hi => ?_⟩
    · have := h 0 (by simp); simpa using this
    · have := h (i + 1) (by simpa using hi)
      rw [show o + 1 + i = o + (i + 1) by omega]; exact this
theorem Fr.alloc {r : Nat} {W w : World} {L : List (Nat × List Value)} (h : Fr r W w L) (vs : List Value) (T : TypeId) (hr : r < w.heap.size) : Fr r W (w.alloc (.cells vs.toArray T)) ((w.heap.size, vs) :: L) :=
  ⟨(h.other _).kp, fun p hp => by
    rcases List.mem_cons.1 hp with rfl | hp
    · exact ⟨At.new _ _ _ _ _ (fun i hi => by simp), h.kp.size, by dsimp only; omega, by simp⟩
    · exact (h.other _).own p hp⟩
theorem Fr.alloc' {r : Nat} {W w : World} {L : List (Nat × List Value)} (h : Fr r W w L) (vs : List Value) (T : TypeId) (hr : w.heap.size ≠ r) : Fr r W (w.alloc (.cells vs.toArray T)) ((w.heap.size, vs) :: L) :=
  ⟨(h.other _).kp, fun p hp => by
    rcases List.mem_cons.1 hp with rfl | hp
    · exact ⟨At.new _ _ _ _ _ (fun i hi => by simp), h.kp.size, hr, by simp⟩
    · exact (h.other _).own p hp⟩
theorem At.setLow {w : World} {b i : Nat} {u : Value} : ∀ (vs : List Value) (o : Nat), i < o → At w b o vs → At (w.setCell ⟨b, i, none⟩ u) b o vs
  | [], _, _, _ => trivial
  | _ :: vs, o, hi, ⟨h1, h2, h3⟩ => ⟨(World.cell?_setCell_other _ _ _ _ (by intro e; injection e; omega)).trans h1, (World.frozen?_setCell _ _ _ _).trans h2, At.setLow vs (o + 1) (by omega) h3⟩
/-- The block at the head of the list is written. -/
theorem At.set {w : World} {b : Nat} {u : Value} : ∀ (vs : List Value) (o i : Nat), At w b o vs → i < vs.length → At (w.setCell ⟨b, o + i, none⟩ u) b o (vs.set i u)
  | [], _, _, _, hi => by simp at hi
  | v :: vs, o, 0, ⟨h1, h2, h3⟩, _ => ⟨World.cell?_setCell_same _ _ _ h1, (World.frozen?_setCell _ _ _ _).trans h2, At.setLow vs (o + 1) (by omega) h3⟩
  | v :: vs, o, i + 1, ⟨h1, h2, h3⟩, hi => by
    have ih := At.set (u := u) vs (o + 1) i h3 (by simpa using hi)
    rw [show o + 1 + i = o + (i + 1) by omega] at ih
    exact ⟨(World.cell?_setCell_other _ _ _ _ (by simp)).trans h1, (World.frozen?_setCell _ _ _ _).trans h2, ih⟩
theorem Fr.setAway {r : Nat} {W w : World} {L : List (Nat × List Value)} (h : Fr r W w L) (p : Addr) (u : Value) (hW : W.heap.size ≤ p.block) (hp : ∀ q ∈ L, q.1 ≠ p.block) : Fr r W (w.setCell p u) L :=
  ⟨h.kp.setCell (Or.inl hW) u, fun q hq => by
    obtain ⟨h1, h2, h3, h4⟩ := h.own q hq
    refine ⟨At.move (fun o v hv => (World.cell?_setCell_other _ _ _ _ (fun e => hp q hq (by rw [e]))).trans hv) (fun o v _ => World.frozen?_setCell _ _ _ _) _ _ h1, h2, h3, by simpa using h4⟩⟩
theorem Fr.set {r b : Nat} {W w : World} {vs : List Value} {L : List (Nat × List Value)} (h : Fr r W w ((b, vs) :: L)) (i : Nat) (u : Value) (hi : i < vs.length) (hp : ∀ q ∈ L, q.1 ≠ b) : Fr r W (w.setCell ⟨b, i, none⟩ u) ((b, vs.set i u) :: L) := by
  obtain ⟨h1, h2, h3, h4⟩ := h.own (b, vs) (by simp)
  have hL : Fr r W w L := ⟨h.kp, fun p hp => h.own p (by simp [hp])⟩
  have hS := hL.setAway ⟨b, i, none⟩ u h2 hp
  refine ⟨hS.kp, fun p hp' => ?_⟩
  rcases List.mem_cons.1 hp' with rfl | hp'
  · have := At.set (u := u) vs 0 i h1 hi
    simp only [Nat.zero_add] at this
    exact ⟨this, h2, h3, by simpa using h4⟩
  · exact hS.own p hp'
/-- The blocks in another order, or fewer of them. -/
theorem Fr.sub {r : Nat} {W w : World} {L L' : List (Nat × List Value)} (h : Fr r W w L) (hs : ∀ p ∈ L', p ∈ L) : Fr r W w L' := ⟨h.kp, fun p hp => h.own p (hs p hp)⟩
theorem Fr.lay1 {r b : Nat} {W w : World} {vs : List Value} {L : List (Nat × List Value)} (h : Fr r W w ((b, vs) :: L)) : At w b 0 vs ∧ b < w.heap.size + (if vs = [] then b + 1 else 0) := by
  have := (h.own (b, vs) (by simp)).1
  refine ⟨this, ?_⟩
  cases vs with
  | nil => simp; omega
  | cons v vs => have := World.block_lt_of_cell? w _ this.1; simp; exact this
theorem Fr.rest {r b : Nat} {W w : World} {vs : List Value} {L : List (Nat × List Value)} (h : Fr r W w ((b, vs) :: L)) : Fr r W w L := h.sub fun p hp => by simp [hp]

theorem Kp.rule {r : Nat} {w w' : World} (h : Kp r w w') : (∀ b o, b < w.heap.size → b ≠ r → w'.cell? ⟨b, o, none⟩ = w.cell? ⟨b, o, none⟩) ∧ (∀ b o, b < w.heap.size → b ≠ r → w'.frozen? ⟨b, o, none⟩ = w.frozen? ⟨b, o, none⟩) :=
  ⟨fun b o hb hr => World.cell?_of_block (w := w) (h.block b hb hr), fun b o hb hr => h.frozen (a := ⟨b, o, none⟩) hb hr⟩
/-- The same where no reader is at hand: all older memory is as it was. -/
structure Fb (W w : World) (L : List (Nat × List Value)) : Prop where
  kp : Below W.heap.size W w
  own : ∀ p ∈ L, At w p.1 0 p.2 ∧ W.heap.size ≤ p.1 ∧ p.1 < w.heap.size
theorem Fb.start (w : World) : Fb w w [] := ⟨Below.refl _ _, fun _ h => by cases h⟩
theorem Fb.below {W w w' : World} {L : List (Nat × List Value)} (h : Fb W w L) (K : Below w.heap.size w w') : Fb W w' L :=
  ⟨h.kp.trans (K.mono h.kp.size), fun p hp => by
    obtain ⟨h1, h2, h3⟩ := h.own p hp
    exact ⟨At.move (fun o v hv => (K.cell (World.block_lt_of_cell? w _ hv)).trans hv) (fun o v hv => K.frozen (World.block_lt_of_cell? w _ hv)) _ _ h1, h2, Nat.lt_of_lt_of_le h3 K.size⟩⟩
theorem Fb.drew {W w : World} {L : List (Nat × List Value)} (h : Fb W w L) : Fb W w.drew L := h.below (Below.refl _ _).drew
theorem Fb.drewN {n : Nat} {W w : World} {L : List (Nat × List Value)} (h : Fb W w L) : Fb W (w.drewN n) L := h.below ⟨rfl, rfl, rfl, Nat.le_refl _, fun _ _ => rfl⟩
theorem Fb.other {W w : World} {L : List (Nat × List Value)} (h : Fb W w L) (o : Obj) : Fb W (w.alloc o) L := h.below ((Below.refl _ _).alloc (Nat.le_refl _) o)
theorem Fb.alloc {W w : World} {L : List (Nat × List Value)} (h : Fb W w L) (vs : List Value) (T : TypeId) : Fb W (w.alloc (.cells vs.toArray T)) ((w.heap.size, vs) :: L) :=
  ⟨(h.other _).kp, fun p hp => by
    rcases List.mem_cons.1 hp with rfl | hp
    · exact ⟨At.new _ _ _ _ _ (fun i hi => by simp), h.kp.size, by simp⟩
    · exact (h.other _).own p hp⟩
theorem Fb.setAway {W w : World} {L : List (Nat × List Value)} (h : Fb W w L) (p : Addr) (u : Value) (hW : W.heap.size ≤ p.block) (hp : ∀ q ∈ L, q.1 ≠ p.block) : Fb W (w.setCell p u) L :=
  ⟨h.kp.setCell hW u, fun q hq => by
    obtain ⟨h1, h2, h3⟩ := h.own q hq
    refine ⟨At.move (fun o v hv => (World.cell?_setCell_other _ _ _ _ (fun e => hp q hq (by rw [e]))).trans hv) (fun o v _ => World.frozen?_setCell _ _ _ _) _ _ h1, h2, by simpa using h3⟩⟩
theorem Fb.set {b : Nat} {W w : World} {vs : List Value} {L : List (Nat × List Value)} (h : Fb W w ((b, vs) :: L)) (i : Nat) (u : Value) (hi : i < vs.length) (hp : ∀ q ∈ L, q.1 ≠ b) : Fb W (w.setCell ⟨b, i, none⟩ u) ((b, vs.set i u) :: L) := by
  obtain ⟨h1, h2, h3⟩ := h.own (b, vs) (by simp)
  have hL : Fb W w L := ⟨h.kp, fun p hp => h.own p (by simp [hp])⟩
  have hS := hL.setAway ⟨b, i, none⟩ u h2 hp
  refine ⟨hS.kp, fun p hp' => ?_⟩
  rcases List.mem_cons.1 hp' with rfl | hp'
  · have := At.set (u := u) vs 0 i h1 hi
    simp only [Nat.zero_add] at this
    exact ⟨this, h2, by simpa using h3⟩
  · exact hS.own p hp'
theorem Fb.sub {W w : World} {L L' : List (Nat × List Value)} (h : Fb W w L) (hs : ∀ p ∈ L', p ∈ L) : Fb W w L' := ⟨h.kp, fun p hp => h.own p (hs p hp)⟩
theorem Fb.rest {b : Nat} {W w : World} {vs : List Value} {L : List (Nat × List Value)} (h : Fb W w ((b, vs) :: L)) : Fb W w L := h.sub fun p hp => by simp [hp]
theorem Fb.alloc_1 {W w : World} {L : List (Nat × List Value)} {v0 : Value} {T : TypeId} (h : Fb W w L) : Fb W (w.alloc (.cells #[v0] T)) ((w.heap.size, [v0]) :: L) := h.alloc [v0] T
theorem Fb.alloc_2 {W w : World} {L : List (Nat × List Value)} {v0 v1 : Value} {T : TypeId} (h : Fb W w L) : Fb W (w.alloc (.cells #[v0, v1] T)) ((w.heap.size, [v0, v1]) :: L) := h.alloc [v0, v1] T
theorem Fb.alloc_3 {W w : World} {L : List (Nat × List Value)} {v0 v1 v2 : Value} {T : TypeId} (h : Fb W w L) : Fb W (w.alloc (.cells #[v0, v1, v2] T)) ((w.heap.size, [v0, v1, v2]) :: L) := h.alloc [v0, v1, v2] T
theorem Fb.alloc_4 {W w : World} {L : List (Nat × List Value)} {v0 v1 v2 v3 : Value} {T : TypeId} (h : Fb W w L) : Fb W (w.alloc (.cells #[v0, v1, v2, v3] T)) ((w.heap.size, [v0, v1, v2, v3]) :: L) := h.alloc [v0, v1, v2, v3] T
theorem Fb.alloc_5 {W w : World} {L : List (Nat × List Value)} {v0 v1 v2 v3 v4 : Value} {T : TypeId} (h : Fb W w L) : Fb W (w.alloc (.cells #[v0, v1, v2, v3, v4] T)) ((w.heap.size, [v0, v1, v2, v3, v4]) :: L) := h.alloc [v0, v1, v2, v3, v4] T
theorem Fb.alloc_8 {W w : World} {L : List (Nat × List Value)} {v0 v1 v2 v3 v4 v5 v6 v7 : Value} {T : TypeId} (h : Fb W w L) : Fb W (w.alloc (.cells #[v0, v1, v2, v3, v4, v5, v6, v7] T)) ((w.heap.size, [v0, v1, v2, v3, v4, v5, v6, v7]) :: L) := h.alloc [v0, v1, v2, v3, v4, v5, v6, v7] T
theorem Fr.alloc_1 {r : Nat} {W w : World} {L : List (Nat × List Value)} {v0 : Value} {T : TypeId} (h : Fr r W w L) (hr : w.heap.size ≠ r) : Fr r W (w.alloc (.cells #[v0] T)) ((w.heap.size, [v0]) :: L) := h.alloc' [v0] T hr
theorem Fr.alloc_2 {r : Nat} {W w : World} {L : List (Nat × List Value)} {v0 v1 : Value} {T : TypeId} (h : Fr r W w L) (hr : w.heap.size ≠ r) : Fr r W (w.alloc (.cells #[v0, v1] T)) ((w.heap.size, [v0, v1]) :: L) := h.alloc' [v0, v1] T hr
theorem Fr.alloc_3 {r : Nat} {W w : World} {L : List (Nat × List Value)} {v0 v1 v2 : Value} {T : TypeId} (h : Fr r W w L) (hr : w.heap.size ≠ r) : Fr r W (w.alloc (.cells #[v0, v1, v2] T)) ((w.heap.size, [v0, v1, v2]) :: L) := h.alloc' [v0, v1, v2] T hr
theorem Fr.alloc_4 {r : Nat} {W w : World} {L : List (Nat × List Value)} {v0 v1 v2 v3 : Value} {T : TypeId} (h : Fr r W w L) (hr : w.heap.size ≠ r) : Fr r W (w.alloc (.cells #[v0, v1, v2, v3] T)) ((w.heap.size, [v0, v1, v2, v3]) :: L) := h.alloc' [v0, v1, v2, v3] T hr
theorem Fr.alloc_5 {r : Nat} {W w : World} {L : List (Nat × List Value)} {v0 v1 v2 v3 v4 : Value} {T : TypeId} (h : Fr r W w L) (hr : w.heap.size ≠ r) : Fr r W (w.alloc (.cells #[v0, v1, v2, v3, v4] T)) ((w.heap.size, [v0, v1, v2, v3, v4]) :: L) := h.alloc' [v0, v1, v2, v3, v4] T hr
theorem Fr.alloc_8 {r : Nat} {W w : World} {L : List (Nat × List Value)} {v0 v1 v2 v3 v4 v5 v6 v7 : Value} {T : TypeId} (h : Fr r W w L) (hr : w.heap.size ≠ r) : Fr r W (w.alloc (.cells #[v0, v1, v2, v3, v4, v5, v6, v7] T)) ((w.heap.size, [v0, v1, v2, v3, v4, v5, v6, v7]) :: L) := h.alloc' [v0, v1, v2, v3, v4, v5, v6, v7] T hr
theorem Fb.cl {W w : World} {L : List (Nat × List Value)} (h : Fb W w L) (x : Cl w.heap.size w) : Fb W x.W L := h.below x.below
theorem Given.below {w w' : World} {v : Value} (h : Given w v) (hb : Below w.heap.size w w') : Given w' v := by
  obtain ⟨ao, n, cap, e, h1, h2, h3⟩ := h.has
  refine ⟨ao, n, cap, e, h1, h2, fun hn => ?_⟩
  obtain ⟨b, off, zs, e1, hlt, hc⟩ := h3 hn
  exact ⟨b, off, zs, e1, Nat.lt_of_lt_of_le hlt hb.size, fun i hi => ⟨(hb.cell (by exact hlt)).trans (hc i hi).1, (hc i hi).2⟩⟩
theorem Given.alloc {w : World} {v : Value} (h : Given w v) (o : Obj) : Given (w.alloc o) v := h.below ((Below.refl _ _).alloc (Nat.le_refl _) _)
end Go.Proofs.Ytjkfnjjkjhggfaa
