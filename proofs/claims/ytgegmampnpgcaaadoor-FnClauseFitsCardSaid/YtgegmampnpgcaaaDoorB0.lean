/- General lemmas: regions that draw their order, over the class of worlds that keep all old memory. -/
import Derived.WalkKit
import Derived.WalkSpells
import Derived.WalkLawsBesides
import Derived.BigQuiet
import Derived.Deep.QuietTactic
import Derived.Lib.Hide
import Derived.Deep.RegionWith
import Derived.Deep.RegionHeld3
import Derived.Deep.LoopGhost
import Derived.Deep.DeepMust
import Derived.Deep.DeepFit
import Derived.Deep.Cut
import Derived.Deep.CutBlock
import Derived.Deep.DeepCutAuto
import Derived.Deep.Light
set_option linter.unusedSimpArgs false
set_option linter.unusedVariables false
namespace Go.Proofs.YtgegmampnpgcaaaDoor
open Go.RowKit

theorem ret_bool {a b : Bool} (h : a = b) : Ending.returned (.bool a) = .returned (.bool b) := by rw [h]
theorem ret_int {k : IntKind} {a b : Int} (h : a = b) : Ending.returned (.int k a) = .returned (.int k b) := by rw [h]

/-- A world in which all that lies below block B of w is as it was. -/
structure Cl (B : Nat) (w : World) where
  W : World
  below : Below B w W

instance (B : Nat) (w : World) : Nonempty (Cl B w) := ⟨⟨w, Below.refl _ _⟩⟩

theorem Cl.cell {w : World} (x : Cl w.heap.size w) {a : Addr} {v : Value} (h : w.cell? a = some v) : x.W.cell? a = some v :=
  (x.below.cell (World.block_lt_of_cell? w a h)).trans h
theorem Cl.frozen {w : World} (x : Cl w.heap.size w) {a : Addr} (h : a.block < w.heap.size) {b : Bool} (hf : w.frozen? a = b) : x.W.frozen? a = b :=
  (x.below.frozen h).trans hf

/-- A region that draws its order, walked once in the order of the text: each operation reads, or calls what keeps old memory. -/
theorem wp_region_new {P : Program} {id : Nat} {Q : Exit → Act → World → Prop} {a : Act} {w : World} {l : List Oper} (hm : P.follows .mixedOrders = true) (hB : Region.lexB .any l.toArray = true)
    (h : wpQuiet P l.toArray (fun w' => ∃ x : Cl w.heap.size w, w' = x.W) (fun a' => ∀ x : Cl w.heap.size w, Q .normal a' x.W) l a) : (Code.region id l.toArray true).wp P Q a w := by
  refine wp_region_quiet (C := fun w' => ∃ x : Cl w.heap.size w, w' = x.W) hm hB ⟨⟨w.drew, (Below.refl _ _).drew⟩, rfl⟩ ?_
  have e : (fun a' => ∀ w', (∃ x : Cl w.heap.size w, w' = x.W) → Q .normal a' w') = (fun a' => ∀ x : Cl w.heap.size w, Q .normal a' x.W) := by
    funext a'; simp
  simpa [e] using h

/-- The same for operations in the order of the text. -/
theorem wpOps_quiet {P : Program} {ops : Array Oper} {C : World → Prop} {Q : Exit → Act → World → Prop} (n : Nat) :
    ∀ (i : Nat) (a : Act) (w : World), i + n = ops.size → C w → wpQuiet P ops C (fun a' => ∀ w', C w' → Q .normal a' w') (ops.toList.drop i) a → wpOps P ops Q (List.range' i n) a w := by
  induction n with
  | zero =>
    intro i a w hi hC h
    have e : ops.toList.drop i = [] := by simp; omega
    rw [e] at h
    simp only [List.range'_zero, wpOps]
    exact h w hC
  | succ n ih =>
    intro i a w hi hC h
    have hlt : i < ops.toList.length := by simp; omega
    rw [List.drop_eq_getElem_cons hlt] at h
    simp only [wpQuiet] at h
    rw [List.range'_succ]
    simp only [wpOps]
    have ho : ops[i]? = some (ops.toList[i]) := by simp
    rw [ho]
    dsimp only
    by_cases hw : Region.wanted (ops.toList[i]) (yielded ops a.tmps) = true
    · rw [if_pos hw] at h ⊢
      exact Or.inl (Oper.wp_of_quiet hC (fun a' w' hC' hk => ih (i + 1) a' w' (by omega) hC' hk) h)
    · rw [if_neg hw] at h ⊢
      exact ih (i + 1) _ w (by omega) hC h
theorem wp_region_lex {P : Program} {id : Nat} {Q : Exit → Act → World → Prop} {a : Act} {w : World} {l : List Oper}
    (h : wpQuiet P l.toArray (fun w' => ∃ x : Cl w.heap.size w, w' = x.W) (fun a' => ∀ x : Cl w.heap.size w, Q .normal a' x.W) l a) : (Code.region id l.toArray false).wp P Q a w := by
  refine wp_region ?_
  rw [List.range_eq_range']
  refine wpOps_quiet (C := fun w' => ∃ x : Cl w.heap.size w, w' = x.W) _ 0 a w (by simp) ⟨⟨w, Below.refl _ _⟩, rfl⟩ ?_
  have e : (fun a' => ∀ w', (∃ x : Cl w.heap.size w, w' = x.W) → Q .normal a' w') = (fun a' => ∀ x : Cl w.heap.size w, Q .normal a' x.W) := by
    funext a'; simp
  simpa [e] using h

theorem wpQuiet_more {P : Program} {ops : Array Oper} {C : World → Prop} {Q : Act → Prop} {o : Oper} {rest : List Oper} {a : Act} (h : wpQuiet P ops C Q (o :: rest) a) : wpQuiet P ops C Q (o :: rest) a := h

/-- A callee that keeps old memory, met in such a region. -/
theorem Calls.cl {P : Program} {f : FuncId} {args : Array Value} {w : World} {x : Cl w.heap.size w} {v : Value}
    (h : Calls P f args x.W fun e w' => e = .returned v ∧ Below x.W.heap.size x.W w') : Calls P f args x.W fun e w'' => e = .returned v ∧ ∃ y : Cl w.heap.size w, w'' = y.W :=
  h.mono fun _ w' ⟨he, hw⟩ => ⟨he, ⟨w', x.below.trans (hw.mono x.below.size)⟩, rfl⟩
end Go.Proofs.YtgegmampnpgcaaaDoor
