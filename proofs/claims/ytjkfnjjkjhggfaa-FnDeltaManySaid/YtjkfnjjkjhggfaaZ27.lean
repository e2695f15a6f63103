/- The caller in impl.DeltaCut: what it receives; behind the close: steps that turn nothing. Operations that list no word of the library's (but noRoom), ask nothing of the system and do not wait: a predicate on what an operation is, and its laws. -/
import Derived.Test.YtjkfnjjkjhggfaaZ26
import Derived.Conc.Own5
import Derived.Conc.Fork
import Derived.Laws.Sem
set_option linter.unusedSimpArgs false
set_option linter.unusedVariables false
namespace Go.Proofs.Ytjkfnjjkjhggfaa
open Go.Conc Go.RowKit

theorem zero_run (w : World) : (zeroValue 32).run Try.prog w = .ok (.agg #[.slice none 0 0, .slice none 0 0]) w := Try.zeroValue32 w
theorem zero_events (w : World) : (zeroValue 32).events Try.prog w #[] = #[] := by kernel_rfl
/-- What is received behind the close. -/
abbrev zM : Value := .agg #[.slice none 0 0, .slice none 0 0]
section
variable {nf c bm N : Nat} {w0 : World} {Post : Value → World → Prop} {cs : List Frame}
theorem served_recvM {a : Act} {v : Value} : Conc.served (recvM cs [0, 1] a) v = recvM cs [1] (a.put (some 9) v) := by
  rw [served_G]; rfl
theorem atRecv5 {a : Act} {w : World} {o : Who} {Next : Goroutine → World → Who → Prop} (hx : a.eval (.tmp 8) = .chan (some c)) (next : ∀ w1 o1, RO nf c true w o w1 o1 → Next (recvM cs [0, 1] a) w1 o1) : AtRecvO Try.prog nf c zM Next (recvM cs [0, 1] a) w o :=
  atRecvO_of (by rfl) (by rfl) (by decide) (by rfl) Try.underlying60 zero_run zero_events hx next
theorem stopR_head (hcn : c < nf) (hN : N ≤ 1000000) (htail : ∀ a v w o, SlotsM a c bm v → OutM nf c w0 w o v N → a.eval (.tmp 9) = .tuple #[zM, .bool false] → RetO Try.prog Post (recvM cs [1] a) w) :
    ∀ (ks n : Nat) (got : List Value) (a : Act) (v : Value) (w : World) (o : Who), n + ks = N → SlotsM a c bm v → OutM nf c w0 w o v n → StopR Try.prog nf c zM Vmsg NoFact Post ks got (recvM cs [0, 1] a) w o := by
  have put9 : ∀ {a : Act} {v u : Value}, SlotsM a c bm v → SlotsM (a.put (some 9) u) c bm v ∧ (a.put (some 9) u).eval (.tmp 9) = u := fun S => ⟨⟨by simp [sz_put, S.size], by simpa [df_put] using S.defers, (by simp [ev_put_ne, ev_put_eq, ev_const, sz_put, S.size, S.t3, S.t4, S.t8]), (by simp [ev_put_ne, ev_put_eq, ev_const, sz_put, S.size, S.t3, S.t4, S.t8]), (by simp [ev_put_ne, ev_put_eq, ev_const, sz_put, S.size, S.t3, S.t4, S.t8])⟩, (by simp [ev_put_ne, ev_put_eq, ev_const, sz_put, S.size, S.t3, S.t4, S.t8])⟩
  have rel : ∀ {w o w1 o1 v n}, OutM nf c w0 w o v n → RO nf c true w o w1 o1 → OutM nf c w0 w1 o1 v n := fun W r => ⟨W.old.ro r, W.own.imp fun xs h => h.rx hcn (r.rx none) (by simp)⟩
  intro ks
  induction ks with
  | zero =>
    intro n got a v w o hk S W
    unfold StopR
    refine atRecv5 S.t8 fun w1 o1 r => ?_
    intro _
    have h := served_recvM (cs := cs) (a := a) (v := .tuple #[zM, .bool false])
    obtain ⟨S9, h9⟩ := put9 (u := .tuple #[zM, .bool false]) S
    have : n = N := by omega
    subst this
    have := htail _ v w1 o1 S9 (rel W r) h9
    rw [← h] at this
    exact this
  | succ ks ih =>
    intro n got a v w o hk S W
    unfold StopR
    refine atRecv5 S.t8 fun w1 o1 r => ?_
    rintro u ⟨a1, n1, c1, a2, n2, c2, rfl⟩
    have h := served_recvM (cs := cs) (a := a) (v := .tuple #[.agg #[.slice a1 n1 c1, .slice a2 n2 c2], .bool true])
    obtain ⟨S9, h9⟩ := put9 (u := .tuple #[.agg #[.slice a1 n1 c1, .slice a2 n2 c2], .bool true]) S
    refine (recvsO_iff ..).2 ⟨0 + 500, ?_⟩
    have hg : GoesO Try.prog nf c true (StopR Try.prog nf c zM Vmsg NoFact Post ks (got ++ [.agg #[.slice a1 n1 c1, .slice a2 n2 c2]])) (0 + 500) (recvM cs [1] (a.put (some 9) (.tuple #[.agg #[.slice a1 n1 c1, .slice a2 n2 c2], .bool true]))) w1 o1 := by
      refine recvd hcn cs S9 (rel W r) h9 ⟨rfl, rfl⟩ (by omega) _ 0 ?_
      rintro _ w2 o2 ⟨a', v', rfl, S', W'⟩ w3 o3 r3
      exact ih (n + 1) _ a' v' w3 o3 (by omega) S' (rel W' r3)
    rw [← h] at hg
    exact hg
end
section
variable {P : Program} {Post : Value → World → Prop} {g g' : Goroutine} {w : World} {b : Frame} {a : Act} {k : List Item} {cs : List Frame} {ops : Array Oper} {i : Nat} {rest : List Nat} {op : Oper}
theorem RetO.step (hs : g.status = .running) (h : ∀ d, ∃ es, stepG P true g (w.at d) = .go g' (w.at d) es) (hk : RetO P Post g' w) : RetO P Post g w := by
  obtain ⟨n, hn⟩ := hk
  refine ⟨n + 1, Goes.step hs ?_⟩
  rintro w1 ⟨d, rfl⟩
  obtain ⟨es, e⟩ := h d
  rw [e]
  exact ⟨trivial, Goes.rely (R := AtRel) (fun a b c h h' => by obtain ⟨d, rfl⟩ := h; obtain ⟨d', rfl⟩ := h'; exact ⟨d', rfl⟩) hn ⟨d, rfl⟩⟩
theorem RetO.ctl (hs : g.status = .running) (h : ∀ w, stepG P true g w = .go g' w #[]) (hk : RetO P Post g' w) : RetO P Post g w := RetO.step hs (fun d => ⟨_, h _⟩) hk
theorem RetO.pu {v : Value} (h : Pu P a op v) (ho : ops[i]? = some op) (hw : Region.wanted op (yielded ops a.tmps) = true) (hk : b.kind ≠ .early)
    (hs : RetO P Post (G (b.at (a.put op.dst v) (.inRegion ops rest :: k)) cs) w) : RetO P Post (G (b.at a (.inRegion ops (i :: rest) :: k)) cs) w :=
  RetO.step rfl (fun d => ⟨_, stepG_value ho hw hk (h _).1⟩) hs
theorem RetO.load {x : Operand} {t : TypeId} {A : Addr} {vs : List Value} {v : Value} (ho : ops[i]? = some op) (hw : Region.wanted op (yielded ops a.tmps) = true) (hk : b.kind ≠ .early)
    (hop : op.op = .load t x) (ha : a.eval x = .pointer (some A)) (hl : LoadOf P t vs v) (hc : ∀ j u, vs[j]? = some u → w.cell? (A.add j) = some u)
    (hs : RetO P Post (G (b.at (a.put op.dst v) (.inRegion ops rest :: k)) cs) w) : RetO P Post (G (b.at a (.inRegion ops (i :: rest) :: k)) cs) w := by
  refine RetO.step rfl (fun d => ?_) hs
  have := load_law (P := P) (a := a) (op := op) (nf := A.block + 2) (c := A.block + 1) (me := true) (o1 := fun _ => true) (w1 := w.at d) (by omega) hop ha hl (fun j u hj => ⟨World.block_lt_of_cell? _ _ (hc j u hj), by rw [addBlock]; omega, .inr rfl, hc j u hj⟩)
  exact ⟨_, stepG_value ho hw hk this.1⟩
theorem RetO.unwanted (ho : ops[i]? = some op) (hw : Region.wanted op (yielded ops a.tmps) = false) (hs : RetO P Post (G (b.at (a.put op.dst undef) (.inRegion ops rest :: k)) cs) w) : RetO P Post (G (b.at a (.inRegion ops (i :: rest) :: k)) cs) w :=
  RetO.ctl rfl (fun _ => stepG_unwanted ho hw) hs
end
end Go.Proofs.Ytjkfnjjkjhggfaa
set_option linter.unusedSimpArgs false
set_option linter.unusedVariables false
namespace Go.Proofs.Ytjkfnjjkjhggfaa
open Go.Conc

/-- An end of an operation that is let by: a panic, or an end of the whole run. -/
def HaltOk : Halt → Prop
  | .panic _ | .stuck _ => True
  | .unsupported u => ∀ g, u ≠ .initOrder g
  | _ => False
def Calm (P : Program) {α : Type} (Q : α → Prop) : Sem α → Prop
  | .pure a => Q a
  | .load _ _ k => ∀ v, Calm P Q (k v)
  | .store _ _ _ k => Calm P Q k
  | .new _ k => ∀ n, Calm P Q (k n)
  | .shape _ k => ∀ s, Calm P Q (k s)
  | .freeze _ _ k => Calm P Q k
  | .frozen _ k => ∀ b, Calm P Q (k b)
  | .getObj _ k => ∀ o, Calm P Q (k o)
  | .setObj _ _ k => Calm P Q k
  | .choose _ k => ∀ n, Calm P Q (k n)
  | .sys _ _ => False
  | .program k => Calm P Q (k P)
  | .mark m k => Neutral m ∧ Calm P Q k
  | .halt h => HaltOk h
abbrev Cm (P : Program) {α : Type} (s : Sem α) : Prop := Calm P (fun _ => True) s
section
variable {P : Program} {α β : Type} {Q : α → Prop} {R : β → Prop}
theorem calm_bind {x : Sem α} {f : α → Sem β} (hx : Calm P Q x) (hf : ∀ a, Q a → Calm P R (f a)) : Calm P R (x >>= f) := by
  show Calm P R (x.bind f)
  induction x with
  | pure a => exact hf a hx
  | load m a k ih => exact fun v => ih v (hx v)
  | store m a v k ih => exact ih hx
  | new o k ih => exact fun n => ih n (hx n)
  | shape r k ih => exact fun n => ih n (hx n)
  | freeze a n k ih => exact ih hx
  | frozen a k ih => exact fun n => ih n (hx n)
  | getObj r k ih => exact fun n => ih n (hx n)
  | setObj r o k ih => exact ih hx
  | choose q k ih => exact fun n => ih n (hx n)
  | sys c k ih => exact hx.elim
  | program k ih => exact ih P hx
  | mark m k ih => exact ⟨hx.1, ih hx.2⟩
  | halt h => exact hx
theorem cm_bind {x : Sem α} {f : α → Sem β} (hx : Cm P x) (hf : ∀ a, Calm P R (f a)) : Calm P R (x >>= f) := calm_bind hx fun a _ => hf a
theorem cm_map {x : Sem α} {f : α → β} (hx : Cm P x) : Cm P (f <$> x) := cm_bind (f := fun a => Sem.pure (f a)) hx fun _ => trivial
theorem calm_ite {c : Prop} [Decidable c] {x y : Sem α} (hx : c → Calm P Q x) (hy : ¬c → Calm P Q y) : Calm P Q (if c then x else y) := by split; exact hx ‹_›; exact hy ‹_›
theorem calm_pure {a : α} (h : Q a) : Calm P Q (pure a : Sem α) := h
theorem calm_stuck (s : String) : Calm P Q (stuck s : Sem α) := trivial
theorem calm_halt {h : Halt} (hh : HaltOk h) : Calm P Q (Sem.halt h : Sem α) := hh
theorem calm_unsupported {u : Unsupported} (h : ∀ g, u ≠ .initOrder g) : Calm P Q (unsupported u : Sem α) := h
theorem cm_load (a : Addr) (m : Mode) : Cm P (load a m) := fun _ => trivial
theorem cm_store (a : Addr) (v : Value) (m : Mode) : Cm P (store a v m) := trivial
theorem cm_newObj (o : Obj) : Cm P (newObj o) := fun _ => trivial
theorem cm_shape (r : Nat) : Cm P (shape r) := fun _ => trivial
theorem cm_freeze (a : Addr) (n : Nat) : Cm P (freeze a n) := trivial
theorem cm_frozen (a : Addr) : Cm P (frozen a) := fun _ => trivial
theorem cm_getObj (r : Nat) : Cm P (getObj r) := fun _ => trivial
theorem cm_setObj (r : Nat) (o : Obj) : Cm P (setObj r o) := trivial
theorem cm_choose (q : Question) : Cm P (choose q) := fun _ => trivial
theorem cm_program : Cm P program := trivial
theorem cm_noRoom : Cm P (mark .noRoom) := ⟨rfl, trivial⟩
theorem cm_askRoom (n : Nat) : Cm P (askRoom n) := by unfold askRoom; split; exact cm_noRoom; trivial
end
end Go.Proofs.Ytjkfnjjkjhggfaa
