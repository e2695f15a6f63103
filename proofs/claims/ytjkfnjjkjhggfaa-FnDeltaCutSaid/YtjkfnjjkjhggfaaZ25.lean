/- From the entry, alone, to the go statement, and on to the return. A walk in the company of another goroutine that makes and writes memory too: its steps, and what is known of memory. Operations on memory in company: loads, stores, new blocks. -/
import Derived.Test.YtjkfnjjkjhggfaaZ24
import Derived.Conc.Fork
import Derived.Conc.Own4
import Derived.Conc.CompanyMem
import Derived.Conc.AppendEvents3
import Derived.Maps.AppendAt
set_option linter.unusedSimpArgs false
set_option linter.unusedVariables false
namespace Go.Proofs.Ytjkfnjjkjhggfaa
open Go.Conc

section
variable {P : Program} {Post : Value → World → Prop}
variable (P Post) in
/-- It stands at a go statement; behind it the two follow their scripts for as many messages. -/
def AtGoO (a : Goroutine) (w : World) : Prop :=
  a.status = .running ∧ ∃ (a' child : Goroutine) (w' : World) (es : Array Event) (c cap ks : Nat) (z : Value) (Vok : Value → Prop) (Fact : List Value → World → Who → Prop) (s r : Nat) (tm : Bool),
    stepG P true a w = .spawn a' child w' es ∧ (∀ e ∈ es, ∀ m, e.loc = .mark m → Neutral m) ∧ c < w'.heap.size ∧ 0 < cap ∧
    (∀ vs w o w1 o1, RO w'.heap.size c false w o w1 o1 → Fact vs w o → Fact vs w1 o1) ∧ w'.heap[c]? = some (.chan cap #[] false s r tm) ∧
    (∀ o, RecvsO P w'.heap.size c z Vok Fact Post ks [] a' w' o) ∧ ∀ o, SendsO P w'.heap.size c cap Vok Fact ks [] child w' o
theorem tro_new {nf c sz : Nat} {o : Who} {u : Trace} {x y : MemOp} (hw : Wordless u) (h0 : ∀ op ∈ u, op.g = 0) (hx : x.g = 0 ∧ x.act = .go 1) (hy : y.g = 1 ∧ y.act = .start) : TrO nf c o sz ((u.push x).push y) u.size := by
  have e : (u.push x).push y = u ++ #[x, y] := by
    rw [Array.push_eq_append, Array.push_eq_append, Array.append_assoc]; rfl
  refine ⟨fun op hop => ?_, ⟨x, ?_, hx.1, hx.2⟩, ⟨y, ?_, hy.1, hy.2⟩, fun i op hi hlt => ?_, fun i op hi hlt => ?_⟩
  · simp only [Array.mem_push] at hop
    rcases hop with (h | rfl) | rfl
    · exact hw op h
    · intro m; rw [hx.2]; simp
    · intro m; rw [hy.2]; simp
  · rw [e, Array.getElem?_append_right (Nat.le_refl _)]; simp
  · rw [e, Array.getElem?_append_right (Nat.le_succ _)]; simp
  · rw [e, getElem?_append_old hlt] at hi
    exact h0 op (mem_of_getElem? hi)
  · have := lt_size_of_getElem? hi
    simp at this
    omega
/-- FROM THE ENTRY TO THE RETURN. -/
theorem forkO {n : Nat} {a : Goroutine} {w : World} (h : Goes P true Eq D0 (AtGoO P Post) n a w) :
    ∃ N last o w' t', runNT P (N + 1) (solo a w) #[] = (.ended o w', t') ∧ runN P N (solo a w) = .next last ∧ step P last = .ended o w' ∧ Go.Conc.Good P Post last o w' t' := by
  obtain ⟨k, a₁, w₁, u, hrun, ⟨hs, a', child, w', es, c, cap, ks, z, Vok, Fact, s, r, tm, hsp, hes, hcn, hcap, hFs, hc, hA, hB⟩, hw, h0⟩ := solo_goes #[] h
  have hstep := (stepT_solo (P := P) (w := w₁) hs).trans (runT_solo_spawn hsp)
  generalize hops : ((MemOp.ofEvents 0 a₁.frame.fn a₁.frame.place es).push { g := 0, fn := a₁.frame.fn, pos := a₁.frame.place, act := .go 1 } |>.push { g := 1, fn := child.frame.fn, pos := a₁.frame.place, act := .start }) = ops at hstep
  have hF : TrO w'.heap.size c (fun _ => true) w'.heap.size (#[] ++ u ++ ops) (u ++ MemOp.ofEvents 0 a₁.frame.fn a₁.frame.place es).size := by
    rw [← hops, Array.empty_append, Array.append_push, Array.append_push]
    exact tro_new (hw.append (early0 hes).1) (fun op hop => (Array.mem_append.1 hop).elim (h0 op) ((early0 hes).2 op)) ⟨rfl, rfl⟩ ⟨rfl, rfl⟩
  obtain ⟨N, last, o, w'', t', h1, h2, h3, h4⟩ := pipelineO (sl := none) hcn hcap hFs (Nat.le_refl _) hc (hA _) (hB _) hF
  have hk1 : runNT P (k + 1) (solo a w) #[] = (.next (duo a' child w' none), #[] ++ u ++ ops) := by
    rw [runNT_add, hrun]
    simp only [runNT, hstep]
  refine ⟨k + 1 + N, last, o, w'', t', ?_, ?_, h3, h4⟩
  · rw [Nat.add_assoc, runNT_add, hk1]; exact h1
  · rw [runN_add, ← runNT_fst P (k + 1) _ #[], hk1]; exact h2
end
end Go.Proofs.Ytjkfnjjkjhggfaa
set_option linter.unusedSimpArgs false
set_option linter.unusedVariables false
namespace Go.Proofs.Ytjkfnjjkjhggfaa
open Go.Conc

section
variable {P : Program} {nf c : Nat} {me : Bool} {n : Nat} {w w1 w2 : World} {o o1 o2 : Who}
theorem GoesO.more {Stop : Goroutine → World → Who → Prop} : ∀ {n : Nat} {g : Goroutine} {w : World} {o : Who}, GoesO P nf c me Stop n g w o → GoesO P nf c me Stop (n + 1) g w o
  | 0, _, _, _, h => .inl h
  | _ + 1, _, _, _, .inl h => .inl h
  | n + 1, g, w, o, .inr ⟨hs, h⟩ => .inr ⟨hs, fun w1 o1 r => by
      obtain ⟨g', w', es, e, d, k⟩ := goes_elim (h w1 o1 r)
      rw [e]
      exact ⟨d, GoesO.more k⟩⟩
theorem GoesO.le {Stop : Goroutine → World → Who → Prop} {n m : Nat} {g : Goroutine} (h : GoesO P nf c me Stop n g w o) (hm : n ≤ m) : GoesO P nf c me Stop m g w o := by
  obtain ⟨d, rfl⟩ := Nat.le.dest hm
  clear hm
  induction d with
  | zero => exact h
  | succ d ih => exact GoesO.more ih
variable (P nf c me) in
/-- From (g, w, o) it comes within n own steps to where Q holds. -/
def Seg (Q : Goroutine → World → Who → Prop) (n : Nat) (g : Goroutine) (w : World) (o : Who) : Prop :=
  ∀ (Stop : Goroutine → World → Who → Prop) (m : Nat), (∀ g' w' o', Q g' w' o' → GoesO P nf c me Stop m g' w' o') → GoesO P nf c me Stop (m + n) g w o
variable {Q R : Goroutine → World → Who → Prop} {g g' : Goroutine}
theorem Seg.le {m : Nat} (h : Seg P nf c me Q n g w o) (hm : n ≤ m) : Seg P nf c me Q m g w o := fun Stop k hk => (h Stop k hk).le (by omega)
theorem Seg.done (h : Q g w o) : Seg P nf c me Q n g w o := Seg.le (n := 0) (fun _ _ hk => hk _ _ _ h) (Nat.zero_le n)
theorem Seg.mono (h : Seg P nf c me Q n g w o) (hq : ∀ g w o, Q g w o → R g w o) : Seg P nf c me R n g w o := fun Stop k hk => h Stop k fun g' w' o' q => hk _ _ _ (hq _ _ _ q)
theorem Seg.trans {m : Nat} (h : Seg P nf c me Q n g w o) (hq : ∀ g w o, Q g w o → Seg P nf c me R m g w o) : Seg P nf c me R (m + n) g w o := fun Stop k hk => by
  rw [← Nat.add_assoc]
  exact h Stop (k + m) fun g' w' o' q => hq g' w' o' q Stop k hk
theorem Seg.rely (h : Seg P nf c me Q n g w o) (r : RO nf c me w o w1 o1) : Seg P nf c me Q n g w1 o1 := fun Stop k hk => (h Stop k hk).rely r
theorem DO.idle (w : World) (o : Who) : DO nf c me w o w #[] := ⟨rfl, rfl, rfl, Nat.le_refl _, fun _ _ _ => rfl, by simp⟩
theorem ro_ext (r : RO nf c me w o w1 o1) : RO nf c me w o w1 (ext me w1 o1) :=
  ⟨r.tape, r.os, r.out, r.size, fun k hk => by have := r.own k hk; have := r.size; simp only [ext]; rw [if_pos (by omega)]; assumption, r.block⟩
theorem Seg.step (hs : g.status = .running) (h : ∀ w1 o1, RO nf c me w o w1 o1 → ∃ g' w' es, stepG P me g w1 = .go g' w' es ∧ DO nf c me w1 o1 w' es ∧ Seg P nf c me Q n g' w' (ext me w1 o1)) : Seg P nf c me Q (n + 1) g w o := by
  intro Stop m hm
  refine .inr ⟨hs, fun w1 o1 r => ?_⟩
  obtain ⟨g', w', es, e, d, k⟩ := h w1 o1 r
  rw [e]
  exact ⟨d, k Stop m hm⟩
/-- A move of control. -/
theorem Seg.ctl (hs : g.status = .running) (h : ∀ w, stepG P me g w = .go g' w #[]) (k : Seg P nf c me Q n g' w o) : Seg P nf c me Q (n + 1) g w o :=
  Seg.step hs fun w1 o1 r => ⟨g', w1, #[], h w1, DO.idle .., k.rely (ro_ext r)⟩
/-! ### What is known of memory -/
/-- What may have been turned, if not block x. -/
structure RX (nf c : Nat) (me : Bool) (x : Option Nat) (w : World) (o : Who) (w1 : World) (o1 : Who) : Prop where
  tape : w1.tape = w.tape
  os : w1.os = w.os
  out : w1.output = w.output
  size : w.heap.size ≤ w1.heap.size
  own : ∀ k, k < w.heap.size → o1 k = o k
  block : ∀ k, k < w.heap.size → k ≠ c → (k < nf ∨ o k = me) → some k ≠ x → w1.heap[k]? = w.heap[k]?
theorem RO.rx (r : RO nf c me w o w1 o1) (x : Option Nat) : RX nf c me x w o w1 o1 := ⟨r.tape, r.os, r.out, r.size, r.own, fun k h1 h2 h3 _ => r.block k h1 h2 h3⟩
theorem RX.refl (x : Option Nat) (w : World) (o : Who) : RX nf c me x w o w o := ⟨rfl, rfl, rfl, Nat.le_refl _, fun _ _ => rfl, fun _ _ _ _ _ => rfl⟩
theorem RX.trans {x : Option Nat} (h : RX nf c me x w o w1 o1) (k : RX nf c me x w1 o1 w2 o2) : RX nf c me x w o w2 o2 :=
  ⟨k.tape.trans h.tape, k.os.trans h.os, k.out.trans h.out, Nat.le_trans h.size k.size, fun i hi => (k.own i (Nat.lt_of_lt_of_le hi h.size)).trans (h.own i hi),
   fun i hi hc hm hx => (k.block i (Nat.lt_of_lt_of_le hi h.size) hc (hm.imp id fun e => (h.own i hi).trans e) hx).trans (h.block i hi hc hm hx)⟩
theorem RX.weak {x : Option Nat} (h : RX nf c me none w o w1 o1) : RX nf c me x w o w1 o1 := ⟨h.tape, h.os, h.out, h.size, h.own, fun k h1 h2 h3 _ => h.block k h1 h2 h3 (by simp)⟩
theorem RX.of_ro {x : Option Nat} (h : RO nf c me w o w1 o1) (k : RX nf c me x w1 o1 w2 o2) : RX nf c me x w o w2 o2 := (h.rx x).trans k
/-- Block k, old or one's own, holds ob. -/
structure Kn (nf c : Nat) (me : Bool) (w : World) (o : Who) (k : Nat) (ob : Obj) : Prop where
  lt : k < w.heap.size
  ne : k ≠ c
  mine : k < nf ∨ o k = me
  eq : w.heap[k]? = some ob
theorem Kn.rx {k : Nat} {ob : Obj} {x : Option Nat} (h : Kn nf c me w o k ob) (r : RX nf c me x w o w1 o1) (hx : some k ≠ x) : Kn nf c me w1 o1 k ob :=
  ⟨Nat.lt_of_lt_of_le h.lt r.size, h.ne, h.mine.imp id fun e => (r.own k h.lt).trans e, (r.block k h.lt h.ne h.mine hx).trans h.eq⟩
/-- A cell, of an old block or one's own. -/
structure Ck (nf c : Nat) (me : Bool) (w : World) (o : Who) (a : Addr) (v : Value) : Prop where
  lt : a.block < w.heap.size
  ne : a.block ≠ c
  mine : a.block < nf ∨ o a.block = me
  eq : w.cell? a = some v
theorem Ck.rx {a : Addr} {v : Value} {x : Option Nat} (h : Ck nf c me w o a v) (r : RX nf c me x w o w1 o1) (hx : some a.block ≠ x) : Ck nf c me w1 o1 a v :=
  ⟨Nat.lt_of_lt_of_le h.lt r.size, h.ne, h.mine.imp id fun e => (r.own _ h.lt).trans e, (World.cell?_of_block (r.block _ h.lt h.ne h.mine hx)).trans h.eq⟩
theorem Kn.ck {k i : Nat} {cs : Array Value} {e : TypeId} {fz : Nat × Nat} {v : Value} (h : Kn nf c me w o k (.cells cs e fz)) (hv : cs[i]? = some v) : Ck nf c me w o ⟨k, i, none⟩ v :=
  ⟨h.lt, h.ne, h.mine, by simp [World.cell?, h.eq, hv]⟩
/-- A row of one's own. -/
structure OwnO (nf : Nat) (me : Bool) (w : World) (o : Who) (E : TypeId) (sz : Nat) (v : Value) (n : Nat) (xs : List Value) : Prop where
  row : w.ownsRow nf E sz v n xs
  mine : ∀ g, v.ownBlock = some g → o g = me
theorem OwnO.nil (nf : Nat) (me : Bool) (w : World) (o : Who) (E : TypeId) (sz : Nat) : OwnO nf me w o E sz (.slice none 0 0) 0 [] := ⟨World.ownsRow_nil .., by simp [Value.ownBlock]⟩
theorem OwnO.rx (hcn : c < nf) {E : TypeId} {sz : Nat} {v : Value} {n : Nat} {xs : List Value} {x : Option Nat} (h : OwnO nf me w o E sz v n xs) (r : RX nf c me x w o w1 o1) (hx : ∀ g, v.ownBlock = some g → some g ≠ x) : OwnO nf me w1 o1 E sz v n xs := by
  have hlt := World.ownsRow.lt h.row
  refine ⟨⟨h.row.1, h.row.2.imp id ?_⟩, fun g hg => (r.own g (hlt g hg).2).trans (h.mine g hg)⟩
  rintro ⟨g, cap, cur, rfl, h1, h2, h3⟩
  have hg : (Value.slice (some ⟨g, 0, none⟩) n cap).ownBlock = some g := rfl
  exact ⟨g, cap, cur, rfl, h1, (r.block g (hlt g hg).2 (by omega) (.inr (h.mine g hg)) (hx g hg)).trans h2, h3⟩
/-! ### Operations -/
variable {b : Frame} {a : Act} {k : List Item} {cs : List Frame} {ops : Array Oper} {i : Nat} {rest : List Nat} {op : Oper}
/-- What an own step turns, but for what it lists. -/
structure DW (nf : Nat) (me : Bool) (w : World) (o : Who) (w' : World) : Prop where
  tape : w'.tape = w.tape
  os : w'.os = w.os
  out : w'.output = w.output
  size : w.heap.size ≤ w'.heap.size
  block : ∀ k, k < w.heap.size → (k < nf ∨ o k ≠ me) → w'.heap[k]? = w.heap[k]?
theorem DW.refl (nf : Nat) (me : Bool) (w : World) (o : Who) : DW nf me w o w := ⟨rfl, rfl, rfl, Nat.le_refl _, fun _ _ _ => rfl⟩
theorem DW.do_ {es : Array Event} (h : DW nf me w o w1) (he : ∀ e ∈ es, EvO nf c me (ext me w o) w1.heap.size e) : DO nf c me w o w1 es := ⟨h.tape, h.os, h.out, h.size, h.block, he⟩
/-- What an operation yields. -/
def Gives (P : Program) (a : Act) (op : Oper) (w : World) (v : Value) (w' : World) : Prop := (execOp a.eval op).run P w = .ok (.value v) w' ∨ ((execOp a.eval op).run P w = .ok .skip w' ∧ v = undef)
theorem Seg.oper (ho : ops[i]? = some op) (hw : Region.wanted op (yielded ops a.tmps) = true) (hk : b.kind ≠ .early)
    (h : ∀ w1 o1, RO nf c me w o w1 o1 → ∃ v w', Gives P a op w1 v w' ∧ DW nf me w1 o1 w' ∧ (∀ e ∈ (execOp a.eval op).events P w1 #[], EvO nf c me (ext me w1 o1) w'.heap.size e) ∧
      Seg P nf c me Q n (G (b.at (a.put op.dst v) (.inRegion ops rest :: k)) cs) w' (ext me w1 o1)) : Seg P nf c me Q (n + 1) (G (b.at a (.inRegion ops (i :: rest) :: k)) cs) w o := by
  refine Seg.step rfl fun w1 o1 r => ?_
  obtain ⟨v, w', hg, hd, he, hs⟩ := h w1 o1 r
  rcases hg with hg | ⟨hg, rfl⟩
  · exact ⟨_, w', _, stepG_value ho hw hk hg, hd.do_ fun e hm => he e (mem_listed hm), hs⟩
  · exact ⟨_, w', _, stepG_none ho hw hk hg, hd.do_ fun e hm => he e (mem_listed hm), hs⟩
/-- What an operation does in company, whatever follows. -/
def Eff (P : Program) (nf c : Nat) (me : Bool) (op : Oper) (a : Act) (w : World) (o : Who) (Post : Value → World → Who → Prop) : Prop :=
  ∀ w1 o1, RO nf c me w o w1 o1 → ∃ v w', Gives P a op w1 v w' ∧ DW nf me w1 o1 w' ∧ (∀ e ∈ (execOp a.eval op).events P w1 #[], EvO nf c me (ext me w1 o1) w'.heap.size e) ∧ Post v w' (ext me w1 o1)
theorem Eff.mono {Post Post' : Value → World → Who → Prop} (h : Eff P nf c me op a w o Post) (hp : ∀ v w o, Post v w o → Post' v w o) : Eff P nf c me op a w o Post' := fun w1 o1 r => by
  obtain ⟨v, w', h1, h2, h3, h4⟩ := h w1 o1 r
  exact ⟨v, w', h1, h2, h3, hp _ _ _ h4⟩
theorem Seg.eff {Post : Value → World → Who → Prop} (ho : ops[i]? = some op) (hw : Region.wanted op (yielded ops a.tmps) = true) (hk : b.kind ≠ .early) (he : Eff P nf c me op a w o Post)
    (hs : ∀ v w' o', Post v w' o' → Seg P nf c me Q n (G (b.at (a.put op.dst v) (.inRegion ops rest :: k)) cs) w' o') : Seg P nf c me Q (n + 1) (G (b.at a (.inRegion ops (i :: rest) :: k)) cs) w o :=
  Seg.oper ho hw hk fun w1 o1 r => by
    obtain ⟨v, w', h1, h2, h3, h4⟩ := he w1 o1 r
    exact ⟨v, w', h1, h2, h3, hs _ _ _ h4⟩
/-- An operation that turns nothing. -/
theorem Seg.quiet (v : Value) (ho : ops[i]? = some op) (hw : Region.wanted op (yielded ops a.tmps) = true) (hk : b.kind ≠ .early)
    (h : ∀ w1 o1, RO nf c me w o w1 o1 → Gives P a op w1 v w1 ∧ ∀ e ∈ (execOp a.eval op).events P w1 #[], EvO nf c me o1 w1.heap.size e)
    (hs : Seg P nf c me Q n (G (b.at (a.put op.dst v) (.inRegion ops rest :: k)) cs) w o) : Seg P nf c me Q (n + 1) (G (b.at a (.inRegion ops (i :: rest) :: k)) cs) w o := by
  refine Seg.oper ho hw hk fun w1 o1 r => ⟨v, w1, (h w1 o1 r).1, DW.refl .., fun e he => ?_, hs.rely (ro_ext r)⟩
  rcases (h w1 o1 r).2 e he with h | ⟨k, h1, h2, h3⟩
  · exact .inl h
  · refine .inr ⟨k, h1, h2, ?_⟩
    simp only [ext, if_pos h2]
    exact h3
/-- An operation that does not look at memory. -/
theorem Seg.pure (v : Value) (ho : ops[i]? = some op) (hw : Region.wanted op (yielded ops a.tmps) = true) (hk : b.kind ≠ .early)
    (h : ∀ w, (execOp a.eval op).run P w = .ok (.value v) w) (he : ∀ w, (execOp a.eval op).events P w #[] = #[])
    (hs : Seg P nf c me Q n (G (b.at (a.put op.dst v) (.inRegion ops rest :: k)) cs) w o) : Seg P nf c me Q (n + 1) (G (b.at a (.inRegion ops (i :: rest) :: k)) cs) w o :=
  Seg.quiet v ho hw hk (fun w1 _ _ => ⟨.inl (h w1), by rw [he]; simp⟩) hs
end
end Go.Proofs.Ytjkfnjjkjhggfaa
set_option linter.unusedSimpArgs false
set_option linter.unusedVariables false
namespace Go.Proofs.Ytjkfnjjkjhggfaa
open Go.Conc

section
variable {P : Program} {nf c : Nat} {me : Bool} {n : Nat} {w w1 w2 : World} {o o1 o2 : Who} {Q : Goroutine → World → Who → Prop} {b : Frame} {a : Act} {k : List Item} {cs : List Frame} {ops : Array Oper} {i : Nat} {rest : List Nat} {op : Oper}
def isAggD : TypeDesc → Bool
  | .struct _ | .array _ _ => true
  | _ => false
theorem run_isAgg {t : TypeId} {d : TypeDesc} (ht : P.underlying t = some d) (w : World) : (isAgg t).run P w = .ok (isAggD d) w := by
  cases d <;> simp [isAgg, run_underlying ht, isAggD]
theorem events_isAgg {t : TypeId} {d : TypeDesc} (ht : P.underlying t = some d) (w : World) (es : Array Event) : (isAgg t).events P w es = es := by
  cases d <;> simp [isAgg, run_underlying ht]
theorem ev_read (hcn : c < nf) {w : World} {o : Who} {A : Addr} {v : Value} {e : Event} (h : Ck nf c me w o A v) (he : ∃ ad, e.loc = .cell ad ∧ e.write = false ∧ ad.block = A.block) : EvO nf c me o w.heap.size e := by
  obtain ⟨ad, h1, h2, h3⟩ := he
  refine .inr ⟨A.block, ?_, h.lt, ?_⟩
  · rw [h1]; simp [locBlock, h3]
  · by_cases hlt : A.block < nf
    · exact .inr ⟨hlt, h.ne, h2⟩
    · exact .inl ⟨by omega, h.mine.resolve_left hlt⟩
/-- What is loaded: the cells vs, as a value of type t. -/
inductive LoadOf (P : Program) (t : TypeId) : List Value → Value → Prop
  | agg {d : TypeDesc} {i : TypeInfo} {vs : List Value} (ht : P.underlying t = some d) (hd : isAggD d = true) (hi : P.info? t = some i) (hs : i.size = vs.length) (hne : vs ≠ []) : LoadOf P t vs (.agg vs.toArray)
  | one {d : TypeDesc} {v : Value} (ht : P.underlying t = some d) (hd : isAggD d = false) : LoadOf P t [v] v
theorem loadVar_law (hcn : c < nf) {t : TypeId} {A : Addr} {vs : List Value} {v : Value} (hl : LoadOf P t vs v) {w1 : World} {o1 : Who} (hc : ∀ j u, vs[j]? = some u → Ck nf c me w1 o1 (A.add j) u) :
    (loadVar t A).run P w1 = .ok v w1 ∧ ∀ e ∈ (loadVar t A).events P w1 #[], EvO nf c me o1 w1.heap.size e := by
  have hc' : ∀ j u, vs[j]? = some u → w1.cell? (A.add j) = some u := fun j u h => (hc j u h).eq
  unfold loadVar
  cases hl with
  | agg ht hd hi hs hne =>
    have hr := run_loadCells_list (P := P) (w := w1) A vs hc'
    constructor
    · simp [run_isAgg ht, hd, sizeOf, typeInfo, hi, hs, hr]
    · intro e he
      simp [run_isAgg ht, events_isAgg ht, hd, sizeOf, typeInfo, hi, hs, hr, loadCells] at he
      obtain ⟨v0, hv0⟩ : ∃ v0, vs[0]? = some v0 := by cases vs with | nil => exact absurd rfl hne | cons x l => exact ⟨x, rfl⟩
      rcases events_loadCellsFrom_at (P := P) A (fun k => k = A.block) rfl vs.length 0 #[] w1 #[] (fun j hj => by rw [Nat.zero_add, hc' j vs[j] (List.getElem?_eq_getElem hj)]; rfl) e he with h | ⟨ad, h1, h2, h3⟩
      · simp at h
      · have hck := hc 0 v0 hv0
        have : (A.add 0).block = A.block := addBlock A 0
        exact ev_read hcn hck ⟨ad, h1, h2, by rw [this]; exact h3⟩
  | one ht hd =>
    have h0 : w1.cell? A = some v := by have := hc' 0 v rfl; simpa [Addr.add] using this
    constructor
    · simp [run_isAgg ht, hd, h0]
    · intro e he
      simp [run_isAgg ht, events_isAgg ht, hd, h0] at he
      subst he
      have hck := hc 0 v rfl
      exact ev_read hcn hck ⟨A, rfl, rfl, by rw [addBlock]⟩
theorem load_law (hcn : c < nf) {x : Operand} {t : TypeId} {A : Addr} {vs : List Value} {v : Value} (hop : op.op = .load t x) (ha : a.eval x = .pointer (some A)) (hl : LoadOf P t vs v)
    {w1 : World} {o1 : Who} (hc : ∀ j u, vs[j]? = some u → Ck nf c me w1 o1 (A.add j) u) :
    (execOp a.eval op).run P w1 = .ok (.value v) w1 ∧ ∀ e ∈ (execOp a.eval op).events P w1 #[], EvO nf c me o1 w1.heap.size e := by
  obtain ⟨h1, h2⟩ := loadVar_law (P := P) hcn hl hc
  unfold execOp
  simp only [hop, ha, Instr.loadAt, Instr.sureAddr]
  constructor
  · simp [h1]
  · intro e he
    simp [h1] at he
    exact h2 e he
/-- A LOAD. -/
theorem Seg.load (hcn : c < nf) {x : Operand} {t : TypeId} {A : Addr} {vs : List Value} {v : Value} (ho : ops[i]? = some op) (hw : Region.wanted op (yielded ops a.tmps) = true) (hk : b.kind ≠ .early)
    (hop : op.op = .load t x) (ha : a.eval x = .pointer (some A)) (hl : LoadOf P t vs v) (hc : ∀ j u, vs[j]? = some u → Ck nf c me w o (A.add j) u)
    (hs : Seg P nf c me Q n (G (b.at (a.put op.dst v) (.inRegion ops rest :: k)) cs) w o) : Seg P nf c me Q (n + 1) (G (b.at a (.inRegion ops (i :: rest) :: k)) cs) w o :=
  Seg.quiet v ho hw hk (fun w1 o1 r => by
    have := load_law (P := P) (a := a) (op := op) hcn hop ha hl (w1 := w1) (o1 := o1) (fun j u h => (hc j u h).rx (r.rx none) (by simp))
    exact ⟨.inl this.1, this.2⟩) hs
theorem heapA_new (w : World) (o : Obj) : (w.alloc o).heap[w.heap.size]? = some o := by
  show (w.heap.push o)[w.heap.size]? = some o
  simp
theorem heapA_old (w : World) (o : Obj) (i : Nat) (h : i < w.heap.size) : (w.alloc o).heap[i]? = w.heap[i]? := by
  show (w.heap.push o)[i]? = w.heap[i]?
  rw [Array.getElem?_push, if_neg (Nat.ne_of_lt h)]
theorem rx_alloc (w1 : World) (o1 : Who) (ob : Obj) : RX nf c me none w1 o1 (w1.alloc ob) (ext me w1 o1) :=
  ⟨rfl, rfl, rfl, by simp, fun k hk => by simp [ext, hk], fun k hk _ _ _ => heapA_old w1 ob k hk⟩
theorem dw_alloc (w1 : World) (o1 : Who) (ob : Obj) : DW nf me w1 o1 (w1.alloc ob) := ⟨rfl, rfl, rfl, by simp, fun k hk _ => heapA_old w1 ob k hk⟩
theorem kn_alloc (hcn : c < nf) (w1 : World) (o1 : Who) (ob : Obj) (hn : nf ≤ w1.heap.size) : Kn nf c me (w1.alloc ob) (ext me w1 o1) w1.heap.size ob :=
  ⟨by simp, by omega, .inr (by simp [ext]), heapA_new w1 ob⟩
/-- A NEW BLOCK: whatever operation makes it. -/
theorem Eff.new (hcn : c < nf) (hn : nf ≤ w.heap.size) (ob : Obj) (val : Nat → Value) (hr : ∀ w, (execOp a.eval op).run P w = .ok (.value (val w.heap.size)) (w.alloc ob)) (he : ∀ w, (execOp a.eval op).events P w #[] = #[]) :
    Eff P nf c me op a w o fun v w' o' => ∃ g, v = val g ∧ RX nf c me none w o w' o' ∧ w.heap.size ≤ g ∧ o' g = me ∧ Kn nf c me w' o' g ob :=
  fun w1 o1 r => ⟨_, _, .inl (hr w1), dw_alloc .., by rw [he]; simp, w1.heap.size, rfl, RX.of_ro r (rx_alloc ..), r.size, by simp [ext], kn_alloc hcn w1 o1 ob (Nat.le_trans hn r.size)⟩
theorem Seg.new (hcn : c < nf) (hn : nf ≤ w.heap.size) (ho : ops[i]? = some op) (hw : Region.wanted op (yielded ops a.tmps) = true) (hk : b.kind ≠ .early) (ob : Obj) (val : Nat → Value)
    (hr : ∀ w, (execOp a.eval op).run P w = .ok (.value (val w.heap.size)) (w.alloc ob)) (he : ∀ w, (execOp a.eval op).events P w #[] = #[])
    (hs : ∀ w' o' g, RX nf c me none w o w' o' → w.heap.size ≤ g → o' g = me → Kn nf c me w' o' g ob → Seg P nf c me Q n (G (b.at (a.put op.dst (val g)) (.inRegion ops rest :: k)) cs) w' o') :
    Seg P nf c me Q (n + 1) (G (b.at a (.inRegion ops (i :: rest) :: k)) cs) w o :=
  Seg.eff ho hw hk (Eff.new hcn hn ob val hr he) fun _ w' o' ⟨g, e, h1, h2, h3, h4⟩ => e ▸ hs w' o' g h1 h2 h3 h4
theorem Kn.cks {k : Nat} {cs : Array Value} {e : TypeId} {fz : Nat × Nat} (h : Kn nf c me w o k (.cells cs e fz)) {off : Nat} {vs : List Value} (hs : (cs.toList.drop off).take vs.length = vs) : ∀ j u, vs[j]? = some u → Ck nf c me w o ((⟨k, off, none⟩ : Addr).add j) u := by
  intro j u hj
  have hadd : (⟨k, off, none⟩ : Addr).add j = ⟨k, off + j, none⟩ := by unfold Addr.add; split <;> simp_all
  rw [hadd]
  refine h.ck ?_
  have hlt : j < vs.length := (List.getElem?_eq_some_iff.1 hj).1
  rw [← hs] at hj
  simp [List.getElem?_take, hlt] at hj
  exact hj
end
end Go.Proofs.Ytjkfnjjkjhggfaa
