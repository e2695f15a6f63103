/- Operations that list no word of the library's (but noRoom), ask nothing of the system and do not wait: a predicate on what an operation is, and its laws. -/
import Derived.Conc.Fork
import Derived.Laws.Sem
set_option linter.unusedSimpArgs false
set_option linter.unusedVariables false
namespace Go.Proofs.Ytjkfnjjkjhggfaa
open Go.Conc

/-- An end of an operation that is let by: a panic, or an end of the whole run. -/
def HaltOk : Halt → Prop
  | .panic _ | .stuck _ => True
  | .unsupported u => ∀ g, u ≠ .initOrder g
  | _ => False
def Calm (P : Program) {α : Type} (Q : α → Prop) : Sem α → Prop
  | .pure a => Q a
  | .load _ _ k => ∀ v, Calm P Q (k v)
  | .store _ _ _ k => Calm P Q k
  | .new _ k => ∀ n, Calm P Q (k n)
  | .shape _ k => ∀ s, Calm P Q (k s)
  | .freeze _ _ k => Calm P Q k
  | .frozen _ k => ∀ b, Calm P Q (k b)
  | .getObj _ k => ∀ o, Calm P Q (k o)
  | .setObj _ _ k => Calm P Q k
  | .choose _ k => ∀ n, Calm P Q (k n)
  | .sys _ _ => False
  | .program k => Calm P Q (k P)
  | .mark m k => Neutral m ∧ Calm P Q k
  | .halt h => HaltOk h
abbrev Cm (P : Program) {α : Type} (s : Sem α) : Prop := Calm P (fun _ => True) s
section
variable {P : Program} {α β : Type} {Q : α → Prop} {R : β → Prop}
theorem calm_bind {x : Sem α} {f : α → Sem β} (hx : Calm P Q x) (hf : ∀ a, Q a → Calm P R (f a)) : Calm P R (x >>= f) := by
  show Calm P R (x.bind f)
  induction x with
  | pure a => exact hf a hx
  | load m a k ih => exact fun v => ih v (hx v)
  | store m a v k ih => exact ih hx
  | new o k ih => exact fun n => ih n (hx n)
  | shape r k ih => exact fun n => ih n (hx n)
  | freeze a n k ih => exact ih hx
  | frozen a k ih => exact fun n => ih n (hx n)
  | getObj r k ih => exact fun n => ih n (hx n)
  | setObj r o k ih => exact ih hx
  | choose q k ih => exact fun n => ih n (hx n)
  | sys c k ih => exact hx.elim
  | program k ih => exact ih P hx
  | mark m k ih => exact ⟨hx.1, ih hx.2⟩
  | halt h => exact hx
theorem cm_bind {x : Sem α} {f : α → Sem β} (hx : Cm P x) (hf : ∀ a, Calm P R (f a)) : Calm P R (x >>= f) := calm_bind hx fun a _ => hf a
theorem cm_map {x : Sem α} {f : α → β} (hx : Cm P x) : Cm P (f <$> x) := cm_bind (f := fun a => Sem.pure (f a)) hx fun _ => trivial
theorem calm_ite {c : Prop} [Decidable c] {x y : Sem α} (hx : c → Calm P Q x) (hy : ¬c → Calm P Q y) : Calm P Q (if c then x else y) := by split; exact hx ‹_›; exact hy ‹_›
theorem calm_pure {a : α} (h : Q a) : Calm P Q (pure a : Sem α) := h
theorem calm_stuck (s : String) : Calm P Q (stuck s : Sem α) := trivial
theorem calm_halt {h : Halt} (hh : HaltOk h) : Calm P Q (Sem.halt h : Sem α) := hh
theorem calm_unsupported {u : Unsupported} (h : ∀ g, u ≠ .initOrder g) : Calm P Q (unsupported u : Sem α) := h
theorem cm_load (a : Addr) (m : Mode) : Cm P (load a m) := fun _ => trivial
theorem cm_store (a : Addr) (v : Value) (m : Mode) : Cm P (store a v m) := trivial
theorem cm_newObj (o : Obj) : Cm P (newObj o) := fun _ => trivial
theorem cm_shape (r : Nat) : Cm P (shape r) := fun _ => trivial
theorem cm_freeze (a : Addr) (n : Nat) : Cm P (freeze a n) := trivial
theorem cm_frozen (a : Addr) : Cm P (frozen a) := fun _ => trivial
theorem cm_getObj (r : Nat) : Cm P (getObj r) := fun _ => trivial
theorem cm_setObj (r : Nat) (o : Obj) : Cm P (setObj r o) := trivial
theorem cm_choose (q : Question) : Cm P (choose q) := fun _ => trivial
theorem cm_program : Cm P program := trivial
theorem cm_noRoom : Cm P (mark .noRoom) := ⟨rfl, trivial⟩
theorem cm_askRoom (n : Nat) : Cm P (askRoom n) := by unfold askRoom; split; exact cm_noRoom; trivial
end
end Go.Proofs.Ytjkfnjjkjhggfaa
