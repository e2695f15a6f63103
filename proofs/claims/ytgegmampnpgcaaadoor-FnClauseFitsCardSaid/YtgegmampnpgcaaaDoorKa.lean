/- Small words used everywhere: numbers in bounds; what a callee leaves. -/
import Derived.Test.YtgegmampnpgcaaaDoorDa
import Derived.Test.YtgegmampnpgcaaaDoorB4
set_option linter.unusedSimpArgs false
set_option linter.unusedVariables false
namespace Go.Proofs.YtgegmampnpgcaaaDoor
open Go.RowKit

theorem bcell {W w1 : World} {B : Nat} (hb : Below B W w1) : (∀ b o, b < B → w1.cell? ⟨b, o, none⟩ = W.cell? ⟨b, o, none⟩) ∧ (∀ b o, b < B → w1.frozen? ⟨b, o, none⟩ = W.frozen? ⟨b, o, none⟩) :=
  ⟨fun b o h => hb.cell (p := ⟨b, o, none⟩) h, fun b o h => hb.frozen (p := ⟨b, o, none⟩) h⟩
theorem Cl.c2 {w : World} (x : Cl w.heap.size w) {b : Nat} {v0 v1 : Value} (o : w.cell? ⟨b, 0, none⟩ = some v0 ∧ w.cell? ⟨b, 1, none⟩ = some v1 ∧ w.frozen? ⟨b, 0, none⟩ = false ∧ w.frozen? ⟨b, 1, none⟩ = false) :
    x.W.cell? ⟨b, 0, none⟩ = some v0 ∧ x.W.cell? ⟨b, 1, none⟩ = some v1 := ⟨x.cell o.1, x.cell o.2.1⟩
def Bts (n lo hi : Int) : Prop := lo ≤ n ∧ n ≤ hi
instance (n lo hi : Int) : Decidable (Bts n lo hi) := by unfold Bts; infer_instance
theorem l6In_any (n lo hi : Int) (w : World) :
    Calls Tryd.prog 42 #[.int .i64 n, .int .i64 lo, .int .i64 hi] w fun e w' => e = .returned (.bool (decide (Bts n lo hi))) ∧ Below w.heap.size w w' := by
  go_enter Tryd.func42, Tryd.ntmps42
  go_wp2
  all_goals (go_ret; refine ⟨ret_bool ?_, Below.refl _ _⟩; rw [Bool.eq_iff_iff]; simp; unfold Bts; omega)
end Go.Proofs.YtgegmampnpgcaaaDoor
