/- General lemmas: regions that draw their order, over the class of worlds that keep all old memory. The reader of a code: what a pick leaves. Plain facts on worlds. The reader's walks: pick, l6Open. -/
import Derived.WalkKit
import Derived.WalkSpells
import Derived.WalkLawsBesides
import Derived.BigQuiet
import Derived.Deep.QuietTactic
import Derived.Lib.Hide
import Derived.Deep.RegionWith
import Derived.Deep.RegionHeld3
import Derived.Deep.LoopGhost
import Derived.Deep.DeepMust
import Derived.Deep.DeepFit
import Derived.Deep.Cut
import Derived.Deep.CutBlock
import Derived.Deep.DeepCutAuto
import Derived.Deep.Light
import Derived.Laws.Bits64
import Derived.Test.YtonojegnbcgnaaaDoorRows
set_option linter.unusedSimpArgs false
set_option linter.unusedVariables false
namespace Go.Proofs.YtonojegnbcgnaaaDoor
open Go.RowKit

theorem ret_bool {a b : Bool} (h : a = b) : Ending.returned (.bool a) = .returned (.bool b) := by rw [h]
theorem ret_int {k : IntKind} {a b : Int} (h : a = b) : Ending.returned (.int k a) = .returned (.int k b) := by rw [h]

/-- A world in which all that lies below block B of w is as it was. -/
structure Cl (B : Nat) (w : World) where
  W : World
  below : Below B w W

instance (B : Nat) (w : World) : Nonempty (Cl B w) := ⟨⟨w, Below.refl _ _⟩⟩

theorem Cl.cell {w : World} (x : Cl w.heap.size w) {a : Addr} {v : Value} (h : w.cell? a = some v) : x.W.cell? a = some v :=
  (x.below.cell (World.block_lt_of_cell? w a h)).trans h
theorem Cl.frozen {w : World} (x : Cl w.heap.size w) {a : Addr} (h : a.block < w.heap.size) {b : Bool} (hf : w.frozen? a = b) : x.W.frozen? a = b :=
  (x.below.frozen h).trans hf

/-- A region that draws its order, walked once in the order of the text: each operation reads, or calls what keeps old memory. -/
theorem wp_region_new {P : Program} {id : Nat} {Q : Exit → Act → World → Prop} {a : Act} {w : World} {l : List Oper} (hm : P.follows .mixedOrders = true) (hB : Region.lexB .any l.toArray = true)
    (h : wpQuiet P l.toArray (fun w' => ∃ x : Cl w.heap.size w, w' = x.W) (fun a' => ∀ x : Cl w.heap.size w, Q .normal a' x.W) l a) : (Code.region id l.toArray true).wp P Q a w := by
  refine wp_region_quiet (C := fun w' => ∃ x : Cl w.heap.size w, w' = x.W) hm hB ⟨⟨w.drew, (Below.refl _ _).drew⟩, rfl⟩ ?_
  have e : (fun a' => ∀ w', (∃ x : Cl w.heap.size w, w' = x.W) → Q .normal a' w') = (fun a' => ∀ x : Cl w.heap.size w, Q .normal a' x.W) := by
    funext a'; simp
  simpa [e] using h

/-- The same for operations in the order of the text. -/
theorem wpOps_quiet {P : Program} {ops : Array Oper} {C : World → Prop} {Q : Exit → Act → World → Prop} (n : Nat) :
    ∀ (i : Nat) (a : Act) (w : World), i + n = ops.size → C w → wpQuiet P ops C (fun a' => ∀ w', C w' → Q .normal a' w') (ops.toList.drop i) a → wpOps P ops Q (List.range' i n) a w := by
  induction n with
  | zero =>
    intro i a w hi hC h
    have e : ops.toList.drop i = [] := by simp; omega
    rw [e] at h
    simp only [List.range'_zero, wpOps]
    exact h w hC
  | succ n ih =>
    intro i a w hi hC h
    have hlt : i < ops.toList.length := by simp; omega
    rw [List.drop_eq_getElem_cons hlt] at h
    simp only [wpQuiet] at h
    rw [List.range'_succ]
    simp only [wpOps]
    have ho : ops[i]? = some (ops.toList[i]) := by simp
    rw [ho]
    dsimp only
    by_cases hw : Region.wanted (ops.toList[i]) (yielded ops a.tmps) = true
    · rw [if_pos hw] at h ⊢
      exact Or.inl (Oper.wp_of_quiet hC (fun a' w' hC' hk => ih (i + 1) a' w' (by omega) hC' hk) h)
    · rw [if_neg hw] at h ⊢
      exact ih (i + 1) _ w (by omega) hC h
theorem wp_region_lex {P : Program} {id : Nat} {Q : Exit → Act → World → Prop} {a : Act} {w : World} {l : List Oper}
    (h : wpQuiet P l.toArray (fun w' => ∃ x : Cl w.heap.size w, w' = x.W) (fun a' => ∀ x : Cl w.heap.size w, Q .normal a' x.W) l a) : (Code.region id l.toArray false).wp P Q a w := by
  refine wp_region ?_
  rw [List.range_eq_range']
  refine wpOps_quiet (C := fun w' => ∃ x : Cl w.heap.size w, w' = x.W) _ 0 a w (by simp) ⟨⟨w, Below.refl _ _⟩, rfl⟩ ?_
  have e : (fun a' => ∀ w', (∃ x : Cl w.heap.size w, w' = x.W) → Q .normal a' w') = (fun a' => ∀ x : Cl w.heap.size w, Q .normal a' x.W) := by
    funext a'; simp
  simpa [e] using h

theorem wpQuiet_more {P : Program} {ops : Array Oper} {C : World → Prop} {Q : Act → Prop} {o : Oper} {rest : List Oper} {a : Act} (h : wpQuiet P ops C Q (o :: rest) a) : wpQuiet P ops C Q (o :: rest) a := h

/-- A callee that keeps old memory, met in such a region. -/
theorem Calls.cl {P : Program} {f : FuncId} {args : Array Value} {w : World} {x : Cl w.heap.size w} {v : Value}
    (h : Calls P f args x.W fun e w' => e = .returned v ∧ Below x.W.heap.size x.W w') : Calls P f args x.W fun e w'' => e = .returned v ∧ ∃ y : Cl w.heap.size w, w'' = y.W :=
  h.mono fun _ w' ⟨he, hw⟩ => ⟨he, ⟨w', x.below.trans (hw.mono x.below.size)⟩, rfl⟩
end Go.Proofs.YtonojegnbcgnaaaDoor
set_option linter.unusedSimpArgs false
set_option linter.unusedVariables false
namespace Go.Proofs.YtonojegnbcgnaaaDoor
open Go.RowKit

theorem xor_i64 (a : Int) (h0 : 0 ≤ a) (h1 : a < 9223372036854775808) : 0 ≤ bits .xor .i64 a (a / 64) ∧ bits .xor .i64 a (a / 64) < 9223372036854775808 := by
  obtain ⟨n, rfl⟩ := Int.eq_ofNat_of_zero_le h0
  have e : ((n : Int) / 64) = ((n / 64 : Nat) : Int) := by omega
  have h2 : (BitVec.ofInt 64 (n : Int)).toNat = n := by
    rw [BitVec.ofInt_natCast, BitVec.toNat_ofNat]; exact Nat.mod_eq_of_lt (by omega)
  have h3 : (BitVec.ofInt 64 ((n / 64 : Nat) : Int)).toNat = n / 64 := by
    rw [BitVec.ofInt_natCast, BitVec.toNat_ofNat]; exact Nat.mod_eq_of_lt (by omega)
  have hx : n ^^^ (n / 64) < 2 ^ 63 := Nat.xor_lt_two_pow (by omega) (by omega)
  rw [e]
  have : bits .xor .i64 (n : Int) ((n / 64 : Nat) : Int) = ((n ^^^ (n / 64) : Nat) : Int) := by
    show IntKind.i64.wrap ((BitVec.ofInt 64 (n : Int) ^^^ BitVec.ofInt 64 ((n / 64 : Nat) : Int)).toNat : Int) = _
    rw [BitVec.toNat_xor, h2, h3]
    rw [IntKind.wrap_i64]; omega
  rw [this]; omega

/-- A row of bytes that can be read: n of them, in a block below B. -/
structure Bytes (w : World) (v : Value) (n B : Nat) : Prop where
  le : n ≤ 2000
  has : ∃ ao cap, v = .slice ao n cap ∧ (0 < n → ∃ (b off : Nat) (zs : Nat → Int), ao = some ⟨b, off, none⟩ ∧ b < B ∧ ∀ i : Nat, i < n → w.cell? ⟨b, off + i, none⟩ = some (.int .u8 (zs i)) ∧ 0 ≤ zs i ∧ zs i ≤ 255)

/-- The reader at block r stands at place k. -/
structure Rd (w : World) (r : Nat) (k : Nat) : Prop where
  live : w.frozen? ⟨r, 1, none⟩ = false
  at1 : w.cell? ⟨r, 1, none⟩ = some (.int .i64 k)
  at0 : ∃ v n, w.cell? ⟨r, 0, none⟩ = some v ∧ Bytes w v n r

theorem Rd.lt {w : World} {r k : Nat} (h : Rd w r k) : r < w.heap.size := World.block_lt_of_cell? w _ h.at1

/-- Old memory is as it was, but for the reader's own block. -/
structure Kp (r : Nat) (w w' : World) : Prop where
  os : w'.os = w.os
  tape : w'.tape = w.tape
  output : w'.output = w.output
  size : w.heap.size ≤ w'.heap.size
  block : ∀ k, k < w.heap.size → k ≠ r → w'.heap[k]? = w.heap[k]?

theorem Kp.refl (r : Nat) (w : World) : Kp r w w := ⟨rfl, rfl, rfl, Nat.le_refl _, fun _ _ _ => rfl⟩
theorem Kp.trans {r : Nat} {a b c : World} (h : Kp r a b) (k : Kp r b c) : Kp r a c :=
  ⟨k.os.trans h.os, k.tape.trans h.tape, k.output.trans h.output, Nat.le_trans h.size k.size, fun i hi hr => (k.block i (Nat.lt_of_lt_of_le hi h.size) hr).trans (h.block i hi hr)⟩
theorem Kp.of_below {r : Nat} {a b c : World} (h : Kp r a b) (k : Below b.heap.size b c) : Kp r a c :=
  h.trans ⟨k.os, k.tape, k.output, k.size, fun i hi _ => k.block i hi⟩
theorem Kp.below {r B : Nat} {a b : World} (h : Kp r a b) (hr : B ≤ r) (hB : B ≤ a.heap.size) : Below B a b :=
  ⟨h.os, h.tape, h.output, h.size, fun i hi => h.block i (by omega) (by omega)⟩
theorem Kp.drew {r : Nat} {a w : World} (h : Kp r a w) : Kp r a w.drew := ⟨h.os, h.tape, h.output, h.size, h.block⟩
theorem Kp.drewN {r n : Nat} {a w : World} (h : Kp r a w) : Kp r a (w.drewN n) := ⟨h.os, h.tape, h.output, h.size, h.block⟩
theorem Kp.alloc {r : Nat} {a w : World} (h : Kp r a w) (o : Obj) : Kp r a (w.alloc o) :=
  ⟨h.os, h.tape, h.output, by have := h.size; simp; omega, fun i hi hr => (Below.heap_alloc w o i (Nat.lt_of_lt_of_le hi h.size)).trans (h.block i hi hr)⟩
theorem Kp.setCell {r : Nat} {a w : World} (h : Kp r a w) {p : Addr} (hp : a.heap.size ≤ p.block ∨ p.block = r) (u : Value) : Kp r a (w.setCell p u) :=
  ⟨h.os, h.tape, h.output, by have := h.size; simpa [World.setCell] using this, fun i hi hr => (Below.heap_setCell w p u i (by omega)).trans (h.block i hi hr)⟩
theorem Kp.cell {r : Nat} {w w' : World} (h : Kp r w w') {a : Addr} {v : Value} (hv : w.cell? a = some v) (hr : a.block ≠ r) : w'.cell? a = some v :=
  (World.cell?_of_block (w := w) (h.block a.block (World.block_lt_of_cell? w a hv) hr)).trans hv
theorem Kp.frozen {r : Nat} {w w' : World} (h : Kp r w w') {a : Addr} (ha : a.block < w.heap.size) (hr : a.block ≠ r) : w'.frozen? a = w.frozen? a :=
  World.frozen?_of_block (w := w) (h.block a.block ha hr)

/-- A block of two cells of one's own, in its four facts. -/
theorem Kp.blk2 {r : Nat} {w w' : World} (h : Kp r w w') {b : Nat} {v0 v1 : Value} (o : w.cell? ⟨b, 0, none⟩ = some v0 ∧ w.cell? ⟨b, 1, none⟩ = some v1 ∧ w.frozen? ⟨b, 0, none⟩ = false ∧ w.frozen? ⟨b, 1, none⟩ = false) (hr : b ≠ r) :
    w'.cell? ⟨b, 0, none⟩ = some v0 ∧ w'.cell? ⟨b, 1, none⟩ = some v1 ∧ w'.frozen? ⟨b, 0, none⟩ = false ∧ w'.frozen? ⟨b, 1, none⟩ = false :=
  have hb := World.block_lt_of_cell? w _ o.1
  ⟨h.cell o.1 hr, h.cell o.2.1 hr, (h.frozen (a := ⟨b, 0, none⟩) hb hr).trans o.2.2.1, (h.frozen (a := ⟨b, 1, none⟩) hb hr).trans o.2.2.2⟩
theorem new2 (w : World) (v0 v1 : Value) (T : TypeId) : (w.alloc (.cells #[v0, v1] T)).cell? ⟨w.heap.size, 0, none⟩ = some v0 ∧ (w.alloc (.cells #[v0, v1] T)).cell? ⟨w.heap.size, 1, none⟩ = some v1 ∧ (w.alloc (.cells #[v0, v1] T)).frozen? ⟨w.heap.size, 0, none⟩ = false ∧ (w.alloc (.cells #[v0, v1] T)).frozen? ⟨w.heap.size, 1, none⟩ = false := by simp

theorem set2 {w : World} {b : Nat} {v0 v1 : Value} (o : w.cell? ⟨b, 0, none⟩ = some v0 ∧ w.cell? ⟨b, 1, none⟩ = some v1 ∧ w.frozen? ⟨b, 0, none⟩ = false ∧ w.frozen? ⟨b, 1, none⟩ = false) (p : Addr) (u : Value) (hp : p.block ≠ b) :
    (w.setCell p u).cell? ⟨b, 0, none⟩ = some v0 ∧ (w.setCell p u).cell? ⟨b, 1, none⟩ = some v1 ∧ (w.setCell p u).frozen? ⟨b, 0, none⟩ = false ∧ (w.setCell p u).frozen? ⟨b, 1, none⟩ = false :=
  ⟨(World.cell?_setCell_other _ _ _ _ (fun e => hp (by rw [e]))).trans o.1, (World.cell?_setCell_other _ _ _ _ (fun e => hp (by rw [e]))).trans o.2.1, (World.frozen?_setCell _ _ _ _).trans o.2.2.1, (World.frozen?_setCell _ _ _ _).trans o.2.2.2⟩
/-- Both cells written. -/
theorem put2 {w : World} {b : Nat} {v0 v1 : Value} (o : w.cell? ⟨b, 0, none⟩ = some v0 ∧ w.cell? ⟨b, 1, none⟩ = some v1 ∧ w.frozen? ⟨b, 0, none⟩ = false ∧ w.frozen? ⟨b, 1, none⟩ = false) (u0 u1 : Value) :
    ((w.setCell ⟨b, 0, none⟩ u0).setCell ⟨b, 1, none⟩ u1).cell? ⟨b, 0, none⟩ = some u0 ∧ ((w.setCell ⟨b, 0, none⟩ u0).setCell ⟨b, 1, none⟩ u1).cell? ⟨b, 1, none⟩ = some u1 ∧ ((w.setCell ⟨b, 0, none⟩ u0).setCell ⟨b, 1, none⟩ u1).frozen? ⟨b, 0, none⟩ = false ∧ ((w.setCell ⟨b, 0, none⟩ u0).setCell ⟨b, 1, none⟩ u1).frozen? ⟨b, 1, none⟩ = false := by
  refine ⟨?_, ?_, ?_, ?_⟩
  · rw [World.cell?_setCell_other _ _ _ _ (by simp)]; exact World.cell?_setCell_same _ _ _ o.1
  · exact World.cell?_setCell_same _ _ _ ((World.cell?_setCell_other _ _ _ _ (by simp)).trans o.2.1)
  · simpa using o.2.2.1
  · simpa using o.2.2.2
/-- The first cell written. -/
theorem put2a {w : World} {b : Nat} {v0 v1 : Value} (o : w.cell? ⟨b, 0, none⟩ = some v0 ∧ w.cell? ⟨b, 1, none⟩ = some v1 ∧ w.frozen? ⟨b, 0, none⟩ = false ∧ w.frozen? ⟨b, 1, none⟩ = false) (u0 : Value) :
    (w.setCell ⟨b, 0, none⟩ u0).cell? ⟨b, 0, none⟩ = some u0 ∧ (w.setCell ⟨b, 0, none⟩ u0).cell? ⟨b, 1, none⟩ = some v1 ∧ (w.setCell ⟨b, 0, none⟩ u0).frozen? ⟨b, 0, none⟩ = false ∧ (w.setCell ⟨b, 0, none⟩ u0).frozen? ⟨b, 1, none⟩ = false :=
  ⟨World.cell?_setCell_same _ _ _ o.1, (World.cell?_setCell_other _ _ _ _ (by simp)).trans o.2.1, (World.frozen?_setCell _ _ _ _).trans o.2.2.1, (World.frozen?_setCell _ _ _ _).trans o.2.2.2⟩

theorem Bytes.move {w w' : World} {v : Value} {n B : Nat} (h : Bytes w v n B) (hk : ∀ a u, a.block < B → w.cell? a = some u → w'.cell? a = some u) : Bytes w' v n B := by
  refine ⟨h.le, ?_⟩
  obtain ⟨ao, cap, e, hz⟩ := h.has
  refine ⟨ao, cap, e, fun hn => ?_⟩
  obtain ⟨b, off, zs, e1, hb, hc⟩ := hz hn
  exact ⟨b, off, zs, e1, hb, fun i hi => ⟨hk _ _ hb (hc i hi).1, (hc i hi).2⟩⟩

theorem Rd.move {w w' : World} {r k : Nat} (h : Rd w r k) (hk : ∀ a u, a.block ≤ r → w.cell? a = some u → w'.cell? a = some u) (hf : w'.frozen? ⟨r, 1, none⟩ = w.frozen? ⟨r, 1, none⟩) : Rd w' r k := by
  obtain ⟨v, n, h0, hb⟩ := h.at0
  exact ⟨hf.trans h.live, hk _ _ (Nat.le_refl _) h.at1, v, n, hk _ _ (Nat.le_refl _) h0, hb.move fun a u ha hu => hk a u (Nat.le_of_lt ha) hu⟩

theorem Rd.below {w w' : World} {r k B : Nat} (h : Rd w r k) (hb : Below B w w') (hB : r < B) : Rd w' r k :=
  h.move (fun _ _ ha hu => (hb.cell (by omega)).trans hu) (hb.frozen (by exact hB))
theorem Rd.alloc {w : World} {r k : Nat} (h : Rd w r k) (o : Obj) : Rd (w.alloc o) r k :=
  h.below (B := w.heap.size) ((Below.refl _ _).alloc (Nat.le_refl _) o) h.lt
theorem Rd.drew {w : World} {r k : Nat} (h : Rd w r k) : Rd w.drew r k := h.move (fun _ _ _ hu => hu) rfl
theorem Rd.drewN {w : World} {r k n : Nat} (h : Rd w r k) : Rd (w.drewN n) r k := h.move (fun _ _ _ hu => hu) rfl
theorem Rd.setCell {w : World} {r k : Nat} (h : Rd w r k) {p : Addr} (hp : r < p.block) (u : Value) : Rd (w.setCell p u) r k :=
  h.below (B := r + 1) ((Below.refl _ _).setCell hp u) (by omega)
/-- One step of the reader itself. -/
theorem Rd.step {w : World} {r k : Nat} (h : Rd w r k) : Rd (w.setCell ⟨r, 1, none⟩ (.int .i64 ((k : Int) + 1))) r (k + 1) := by
  obtain ⟨v, n, h0, hb⟩ := h.at0
  have e : (.int .i64 ((k : Int) + 1) : Value) = .int .i64 ((k + 1 : Nat) : Int) := by simp
  refine ⟨?_, ?_, v, n, ?_, ?_⟩
  · rw [World.frozen?_setCell]; exact h.live
  · rw [World.cell?_setCell_same _ _ _ h.at1, e]
  · rw [World.cell?_setCell_other _ _ _ _ (by simp)]; exact h0
  · exact hb.move fun a u ha hu => by rw [World.cell?_setCell_other _ _ _ _ (by rintro rfl; simp at ha)]; exact hu
theorem Rd.opened {w : World} {v : Value} {n : Nat} (h : Bytes w v n w.heap.size) (T : TypeId) : Rd (w.alloc (.cells #[v, .int .i64 0] T)) w.heap.size 0 := by
  refine ⟨by simp, by simp, v, n, by simp, h.move fun a u ha hu => ?_⟩
  exact ((Below.refl w.heap.size w).alloc (Nat.le_refl _) _).cell ha |>.trans hu

/-- The code that came in: bytes of a slice. -/
structure Given (w : World) (v : Value) : Prop where
  has : ∃ ao n cap, v = .slice ao n cap ∧ n ≤ cap ∧ cap ≤ 9223372036854775807 ∧ (0 < n → ∃ (b off : Nat) (zs : Nat → Int), ao = some ⟨b, off, none⟩ ∧ b < w.heap.size ∧ ∀ i : Nat, i < n → w.cell? ⟨b, off + i, none⟩ = some (.int .u8 (zs i)) ∧ 0 ≤ zs i ∧ zs i ≤ 255)
end Go.Proofs.YtonojegnbcgnaaaDoor
set_option linter.unusedSimpArgs false
set_option linter.unusedVariables false
namespace Go.Proofs.YtonojegnbcgnaaaDoor
open Go.RowKit

set_option maxHeartbeats 1000000 in
theorem pick_any (r k : Nat) (N : Int) (w : World) (h : Rd w r k) (hk : k ≤ 1000000) (hN : 1 ≤ N) (hN' : N ≤ 1000000) :
    Calls Tryd.prog 37 #[.pointer (some ⟨r, 0, none⟩), .int .i64 N] w fun e w' => ∃ v : Int, e = .returned (.int .i64 v) ∧ 0 ≤ v ∧ v < N ∧ Rd w' r (k + 1) ∧ Kp r w w' := by
  have hR := Lib.hid h.step
  have hR' := Lib.hid ((Kp.refl r w).setCell (p := ⟨r, 1, none⟩) (Or.inr rfl) (.int .i64 ((k : Int) + 1)))
  obtain ⟨hf, h1, v, n, h0, hn, ao, cap, rfl, hz⟩ := h
  have hN1 : decide (N < 1) = false := by simp; omega
  by_cases hn0 : n = 0
  · subst hn0
    go_enter Tryd.func37, Tryd.ntmps37
    go_wp2
    go_ret
    exact ⟨0, rfl, by omega, by omega, hR.out, hR'.out⟩
  · obtain ⟨b, off, zs, rfl, hbr, hc⟩ := hz (by omega)
    have hbr1 : ¬ b = r := by omega
    have hbr2 : ¬ r = b := by omega
    clear hz
    have e0 : decide (n = 0) = false := by simp [hn0]
    have e1 : ((n : Int) == 0) = false := by simp [hn0]
    by_cases hkn : k < n
    · obtain ⟨hc1, hc2, hc3⟩ := hc k hkn
      go_enter Tryd.func37, Tryd.ntmps37
      go_wp2
      go_ret
      exact ⟨_, rfl, Int.emod_nonneg _ (by omega), Int.emod_lt_of_pos _ (by omega), hR.out, hR'.out⟩
    · have q0 : (0:Int) < n := by omega
      have q1 : 0 ≤ (k : Int) % n := Int.emod_nonneg _ (by omega)
      have q2 : (k : Int) % n < n := Int.emod_lt_of_pos _ q0
      have q3 : 0 ≤ ((k : Int) * 7 + 3) % n := Int.emod_nonneg _ (by omega)
      have q4 : ((k : Int) * 7 + 3) % n < n := Int.emod_lt_of_pos _ q0
      have q5 : 0 ≤ (k : Int) / n := Int.ediv_nonneg (by omega) (by omega)
      have q6 : (k : Int) / n ≤ 1000000 := Int.le_trans (Int.ediv_le_self _ (by omega)) (by omega)
      obtain ⟨hd1, hd2, hd3⟩ := hc (k % n) (Nat.mod_lt _ (by omega))
      obtain ⟨he1, he2, he3⟩ := hc ((k * 7 + 3) % n) (Nat.mod_lt _ (by omega))
      clear hc
      have hx := xor_i64 (zs (k % n) * 131 + zs ((k * 7 + 3) % n) * 1117 + k * 29 + k / n * 53) (by omega) (by omega)
      go_enter Tryd.func37, Tryd.ntmps37
      go_wp2
      go_quiet (fail)
      go_wp2
      go_ret
      exact ⟨_, rfl, Int.emod_nonneg _ (by omega), Int.emod_lt_of_pos _ (by omega), hR.out.drewN, hR'.out.drewN⟩

theorem open_any (v : Value) (w : World) (h : Given w v) :
    Calls Tryd.prog 35 #[v] w fun e w' => e = .returned (.pointer (some ⟨w.heap.size, 0, none⟩)) ∧ Rd w' w.heap.size 0 ∧ Below w.heap.size w w' := by
  obtain ⟨ao, n, cap, rfl, hnc, hcap, hz⟩ := h
  by_cases hn : 2000 < n
  · have hd : decide (2000 < (n : Int)) = true := by simp; omega
    obtain ⟨b, off, zs, rfl, hb, hc⟩ := hz (by omega)
    have hB : Bytes w (.slice (some ⟨b, off, none⟩) 2000 cap) 2000 w.heap.size := ⟨Nat.le_refl _, _, _, rfl, fun _ => ⟨b, off, zs, rfl, hb, fun i hi => hc i (by omega)⟩⟩
    clear hz hc
    go_enter Tryd.func35, Tryd.ntmps35
    go_wp2
    go_ret
    exact ⟨rfl, Rd.opened hB _, (Below.refl _ _).alloc (Nat.le_refl _) _⟩
  · have hd : decide (2000 < (n : Int)) = false := by simp; omega
    have hB : Bytes w (.slice ao n cap) n w.heap.size := ⟨by omega, _, _, rfl, hz⟩
    clear hz
    go_enter Tryd.func35, Tryd.ntmps35
    go_wp2
    go_ret
    exact ⟨rfl, Rd.opened hB _, (Below.refl _ _).alloc (Nat.le_refl _) _⟩
end Go.Proofs.YtonojegnbcgnaaaDoor
