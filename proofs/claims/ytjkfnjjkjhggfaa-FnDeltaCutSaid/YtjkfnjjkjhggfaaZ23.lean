/- The draw of the law on letters; what spec.DeltaCut answers. A channel with a buffer between two: what a send or a receive does where the buffer is full, or empty, or the other one waits. Two goroutines that both make and write memory: who made a block; what the other one may turn; a walk in such company; the trace of it holds no race. -/
import Derived.Test.YtjkfnjjkjhggfaaZ19
import Derived.Test.YtjkfnjjkjhggfaaZ22
import Derived.Conc.CommBuf
import Derived.Conc.Pipeline3
set_option linter.unusedSimpArgs false
set_option linter.unusedVariables false
namespace Go.Proofs.Ytjkfnjjkjhggfaa
open Go.RowKit

set_option maxRecDepth 100000 in
set_option maxHeartbeats 4000000 in
theorem drawDeltaCut_any (v : Value) (w : World) (h : Given w v) :
    Calls Try.prog 17 #[v] w fun e w' => ∃ (s1 s2 : Value) (D : List Rg) (L : List Rt), e = .returned (.agg #[s1, s2]) ∧ Own 62 w' w.heap.size s1 2 encRg D ∧ GOwn shRi 64 w' w.heap.size s2 L ∧ (D.length ≤ 20 ∧ L.length ≤ 20) ∧ (∀ s ∈ L, SmRt s) ∧ Below w.heap.size w w' := by
  have hF := (Fb.start w).alloc [.slice none 0 0, .slice none 0 0] 32
  have hG := h.alloc (.cells #[.slice none 0 0, .slice none 0 0] 32)
  obtain ⟨n0, hn0⟩ : ∃ n, w.heap.size = n := ⟨_, rfl⟩
  have HN := Lib.hid hn0
  rw [hn0] at hF
  go_enter Try.func17, Try.ntmps17
  go_wp2_with fail
  refine (drawDeltaMany_any v _ hG).mono ?_; rintro e w3 ⟨s1, s2, D, L, rfl, hD, hT, hl, hs, hb3⟩
  replace hF := hF.below hb3
  have hz3 := hb3.size
  simp only [World.size_alloc, hn0] at hz3 hD hT
  clear hb3 hG
  obtain ⟨a3, c3, rfl⟩ := hD.sl
  obtain ⟨a4, c4, rfl⟩ := hT.sl
  have o := hF.own; simp only [World.size_alloc, World.size_drew, World.size_setCell, List.mem_cons, List.not_mem_nil, or_false, forall_eq_or_imp, forall_eq, At, and_true, Nat.zero_add, Nat.reduceAdd, List.set_cons_zero, List.set_cons_succ] at o
  simp only [hn0]
  go_wp2_with fail
  replace hF := (hF.set 0 (.slice a3 D.length c3) (by simp) (by simp)).set 1 (.slice a4 L.length c4) (by simp) (by simp)
  replace hD := (hD.set (a := ⟨n0, 0, none⟩) (by dsimp only; omega) (.slice a3 D.length c3)).set (a := ⟨n0, 1, none⟩) (by dsimp only; omega) (.slice a4 L.length c4)
  replace hT := (hT.set (a := ⟨n0, 0, none⟩) (by dsimp only; omega) (.slice a3 D.length c3)).set (a := ⟨n0, 1, none⟩) (by dsimp only; omega) (.slice a4 L.length c4)
  generalize ((w3.setCell ⟨n0, 0, none⟩ (.slice a3 D.length c3)).setCell ⟨n0, 1, none⟩ (.slice a4 L.length c4)) = wz at hF hD hT ⊢
  clear o
  have o := hF.own; simp only [World.size_alloc, World.size_drew, World.size_setCell, List.mem_cons, List.not_mem_nil, or_false, forall_eq_or_imp, forall_eq, At, and_true, Nat.zero_add, Nat.reduceAdd, List.set_cons_zero, List.set_cons_succ] at o
  refine bodyPost_ret (v := .agg #[.slice a3 D.length c3, .slice a4 L.length c4]) (by simp [results, Try.results17, go_sem, o]) rfl ?_
  exact ⟨_, _, D, L, rfl, hD.base (by omega), hT.base (by omega), hl, hs, hF.kp⟩
theorem specCut_of {s1 s2 : Value} {D : List Rg} {L : List Rt} {w : World} (hs1 : Rows w s1 2 encRg D) (hs2 : GLs shRi w s2 L) (hN : D.length + L.length ≤ 1000) (hsm : ∀ s ∈ L, SmRt s) : SpecCut s1 s2 D L w := fun w' hb =>
  sDeltaCut_any s1 s2 D L w' (hs1.below hb) (hs2.below hb) hN hsm
end Go.Proofs.Ytjkfnjjkjhggfaa
set_option linter.unusedSimpArgs false
set_option linter.unusedVariables false
namespace Go.Proofs.Ytjkfnjjkjhggfaa
open Go.Conc

section
variable {P : Program} {a a₂ b b₂ : Goroutine} {w w₁ : World} {sl : Option (Nat × Nat)} {es : Array Event} {c cap s r : Nat} {buf : Array Value} {z z' v : Value} {tm closed : Bool}

/-- A send where there is no room: it waits. -/
theorem bf_send_full (h : stepG P false b w = .comm b₂ #[scase c v z'] true .send w₁ es) (hc : w₁.heap[c]? = some (.chan cap buf false s r tm)) (hfull : ¬ buf.size < cap) (ha : a.status ≠ .blocked ∨ a.offers = none) :
    runT P (duo a b w sl) 1 = (.next (duo a (parked b₂ #[scase c v z'] .send) w₁ sl), MemOp.ofEvents 1 b.frame.fn b.frame.place es) := by
  have hp := partners_none1 (c := c) false ha
  simp [runT, duo, Array.swapAt!, Array.swapAt, h, GStep.es, communicate, ways, scase, hc, hp, hfull, waitingAt, timerAhead, parked]

/-- A send to one who waits. -/
theorem bf_send_meets (h : stepG P false b w = .comm b₂ #[scase c v z'] true .send w₁ es) (hc : w₁.heap[c]? = some (.chan cap buf false s r tm)) (ha : a = parked a₂ #[rcase c z] (.recv true)) :
    runT P (duo a b w sl) 1 = (.next (duo (Conc.served a₂ (.tuple #[v, .bool true])) (Conc.served b₂ undef) (w₁.setChan c cap buf false (s + 1) (r + 1) tm) sl),
      MemOp.ofEvents 1 b.frame.fn b.frame.place es ++ #[{ g := 1, fn := b₂.frame.fn, pos := b₂.frame.place, act := .send c s }, { g := 0, fn := a₂.frame.fn, pos := a₂.frame.place, act := .recv c r cap },
        { g := 1, fn := b₂.frame.fn, pos := b₂.frame.place, act := .sendDone c s }, { g := 0, fn := a₂.frame.fn, pos := a₂.frame.place, act := .recvDone c r }]) := by
  subst ha
  simp [runT, duo, Array.swapAt!, Array.swapAt, h, GStep.es, communicate, ways, scase, hc, partners, choose, Sem.run, Question.forced, bind, Sem.bind, pure, finishPartner, Goroutine.finishComm, commResult, parked, rcase, Conc.served, World.setChan]

/-- A receive where nothing lies and the channel is open: it waits. -/
theorem bf_recv_waits (h : stepG P true a w = .comm a₂ #[rcase c z] true (.recv true) w₁ es) (hc : w₁.heap[c]? = some (.chan cap #[] false s r tm)) (hb : b.status ≠ .blocked ∨ b.offers = none) :
    runT P (duo a b w sl) 0 = (.next (duo (parked a₂ #[rcase c z] (.recv true)) b w₁ sl), MemOp.ofEvents 0 a.frame.fn a.frame.place es) := by
  have hp := partners_none0 (c := c) true hb
  simp [runT, duo, Array.swapAt!, Array.swapAt, h, GStep.es, communicate, ways, rcase, hc, hp, waitingAt, timerAhead, parked]

/-- A receive from a buffer behind which the sender waits: his value goes in. -/
theorem bf_recv_pulls (h : stepG P true a w = .comm a₂ #[rcase c z] true (.recv true) w₁ es) (hc : w₁.heap[c]? = some (.chan cap buf closed s r tm)) (hsome : 0 < buf.size) (hb : b = parked b₂ #[scase c v z'] .send) :
    runT P (duo a b w sl) 0 = (.next (duo (Conc.served a₂ (.tuple #[buf.getD 0 undef, .bool true])) (Conc.served b₂ undef) (w₁.setChan c cap ((buf.extract 1 buf.size).push v) closed (s + 1) (r + 1) tm) sl),
      MemOp.ofEvents 0 a.frame.fn a.frame.place es ++ #[{ g := 0, fn := a₂.frame.fn, pos := a₂.frame.place, act := .recv c r cap }, { g := 0, fn := a₂.frame.fn, pos := a₂.frame.place, act := .recvDone c r },
        { g := 1, fn := b₂.frame.fn, pos := b₂.frame.place, act := .send c s }, { g := 1, fn := b₂.frame.fn, pos := b₂.frame.place, act := .sendDone c s }]) := by
  subst hb
  simp [runT, duo, Array.swapAt!, Array.swapAt, h, GStep.es, communicate, ways, rcase, hc, hsome, partners, choose, Sem.run, Question.forced, bind, Sem.bind, pure, finishPartner, offeredValue, Goroutine.finishComm, commResult, parked, scase, Conc.served, World.setChan]
end
end Go.Proofs.Ytjkfnjjkjhggfaa
set_option linter.unusedSimpArgs false
set_option linter.unusedVariables false
namespace Go.Proofs.Ytjkfnjjkjhggfaa
open Go.Conc

/-- Who made a block: true, goroutine 0. It is asked of blocks from nf on. -/
abbrev Who := Nat → Bool
/-- WHAT THE OTHER ONE, THE SCHEDULER AND THE CHANNEL MAY HAVE TURNED, as `me` sees it. -/
structure RO (nf c : Nat) (me : Bool) (w : World) (o : Who) (w1 : World) (o1 : Who) : Prop where
  tape : w1.tape = w.tape
  os : w1.os = w.os
  out : w1.output = w.output
  size : w.heap.size ≤ w1.heap.size
  own : ∀ k, k < w.heap.size → o1 k = o k
  block : ∀ k, k < w.heap.size → k ≠ c → (k < nf ∨ o k = me) → w1.heap[k]? = w.heap[k]?
section
variable {nf c : Nat} {me : Bool} {w w1 w2 : World} {o o1 o2 : Who}
theorem RO.refl (nf c : Nat) (me : Bool) (w : World) (o : Who) : RO nf c me w o w o := ⟨rfl, rfl, rfl, Nat.le_refl _, fun _ _ => rfl, fun _ _ _ _ => rfl⟩
theorem RO.trans (h : RO nf c me w o w1 o1) (k : RO nf c me w1 o1 w2 o2) : RO nf c me w o w2 o2 :=
  ⟨k.tape.trans h.tape, k.os.trans h.os, k.out.trans h.out, Nat.le_trans h.size k.size, fun i hi => (k.own i (Nat.lt_of_lt_of_le hi h.size)).trans (h.own i hi),
   fun i hi hc hm => (k.block i (Nat.lt_of_lt_of_le hi h.size) hc (hm.imp id fun e => (h.own i hi).trans e)).trans (h.block i hi hc hm)⟩
theorem RO.at (h : RO nf c me w o w1 o1) (d : Nat) : RO nf c me w o (w1.at d) o1 := h.trans ⟨rfl, rfl, rfl, Nat.le_refl _, fun _ _ => rfl, fun _ _ _ _ => rfl⟩
theorem RO.chan (nf c : Nat) (me : Bool) (w : World) (o : Who) (ob : Obj) : RO nf c me w o { w with heap := w.heap.setIfInBounds c ob } o :=
  ⟨rfl, rfl, rfl, by simp, fun _ _ => rfl, fun k _ hk _ => by simp [Ne.symm hk]⟩
end
/-- Who made what, behind a step of `me` from w. -/
def ext (me : Bool) (w : World) (o : Who) : Who := fun k => if k < w.heap.size then o k else me
def locBlock : Loc → Option Nat
  | .cell a => some a.block
  | .obj r => some r
  | _ => none
/-- A touch that is allowed: of a block of one's own, or a read of an old one. -/
def TouchO (nf c : Nat) (me : Bool) (o : Who) (sz : Nat) (l : Loc) (wr : Bool) : Prop :=
  ∃ k, locBlock l = some k ∧ k < sz ∧ ((nf ≤ k ∧ o k = me) ∨ (k < nf ∧ k ≠ c ∧ wr = false))
/-- An access that a step of `me` may list. -/
def EvO (nf c : Nat) (me : Bool) (o : Who) (sz : Nat) (e : Event) : Prop := (∃ m, e.loc = .mark m ∧ Neutral m) ∨ TouchO nf c me o sz e.loc e.write
/-- WHAT A STEP OF `me` TURNS: blocks of its own, and new ones. -/
structure DO (nf c : Nat) (me : Bool) (w : World) (o : Who) (w' : World) (es : Array Event) : Prop where
  tape : w'.tape = w.tape
  os : w'.os = w.os
  out : w'.output = w.output
  size : w.heap.size ≤ w'.heap.size
  block : ∀ k, k < w.heap.size → (k < nf ∨ o k ≠ me) → w'.heap[k]? = w.heap[k]?
  evs : ∀ e ∈ es, EvO nf c me (ext me w o) w'.heap.size e
theorem DO.ro {nf c : Nat} {me : Bool} {w w' : World} {o : Who} {es : Array Event} (h : DO nf c me w o w' es) : RO nf c (!me) w o w' (ext me w o) :=
  ⟨h.tape, h.os, h.out, h.size, fun k hk => by simp [ext, hk], fun k hk _ hm => h.block k hk (hm.imp id fun e => by cases me <;> simp_all)⟩
/-- `me` is at most n own steps from a stop, whatever the other one does. -/
def GoesO (P : Program) (nf c : Nat) (me : Bool) (Stop : Goroutine → World → Who → Prop) : Nat → Goroutine → World → Who → Prop
  | 0, g, w, o => ∀ w1 o1, RO nf c me w o w1 o1 → Stop g w1 o1
  | n + 1, g, w, o => (∀ w1 o1, RO nf c me w o w1 o1 → Stop g w1 o1) ∨ (g.status = .running ∧ ∀ w1 o1, RO nf c me w o w1 o1 → (stepG P me g w1).goes fun g' w' es => DO nf c me w1 o1 w' es ∧ GoesO P nf c me Stop n g' w' (ext me w1 o1))
section
variable {P : Program} {nf c : Nat} {me : Bool} {Stop : Goroutine → World → Who → Prop} {n : Nat} {g : Goroutine} {w w1 : World} {o o1 : Who}
theorem GoesO.rely (h : GoesO P nf c me Stop n g w o) (r : RO nf c me w o w1 o1) : GoesO P nf c me Stop n g w1 o1 := by
  cases n with
  | zero => exact fun w2 o2 h2 => h w2 o2 (r.trans h2)
  | succ n =>
    rcases h with h | ⟨hs, h⟩
    · exact .inl fun w2 o2 h2 => h w2 o2 (r.trans h2)
    · exact .inr ⟨hs, fun w2 o2 h2 => h w2 o2 (r.trans h2)⟩
theorem GoesO.running (hst : ∀ g w o, Stop g w o → g.status = .running) (h : GoesO P nf c me Stop n g w o) : g.status = .running := by
  cases n with
  | zero => exact hst _ _ _ (h w o (RO.refl ..))
  | succ n =>
    rcases h with h | ⟨hs, _⟩
    · exact hst _ _ _ (h w o (RO.refl ..))
    · exact hs
theorem GoesO.cases (h : GoesO P nf c me Stop n g w o) : (∀ w1 o1, RO nf c me w o w1 o1 → Stop g w1 o1) ∨ ∃ n', n = n' + 1 ∧ ∀ w1 o1, RO nf c me w o w1 o1 → ∃ g' w' es, stepG P me g w1 = .go g' w' es ∧ DO nf c me w1 o1 w' es ∧ GoesO P nf c me Stop n' g' w' (ext me w1 o1) := by
  cases n with
  | zero => exact .inl h
  | succ n =>
    rcases h with h | ⟨_, h⟩
    · exact .inl h
    · exact .inr ⟨n, rfl, fun w1 o1 r => goes_elim (h w1 o1 r)⟩
end
/-- What an operation behind the start may be. -/
def LateO (nf c : Nat) (o : Who) (sz : Nat) (op : MemOp) : Prop :=
  (op.g = 0 ∨ op.g = 1) ∧ ∀ x, op.act.touch? = some x → TouchO nf c (op.g == 0) o sz x.loc x.write ∨ (op.g = 1 ∧ x.loc = .obj c)
structure TrO (nf c : Nat) (o : Who) (sz : Nat) (t : Trace) (p : Nat) : Prop where
  wordless : Wordless t
  go : ∃ op, t[p]? = some op ∧ op.g = 0 ∧ op.act = .go 1
  start : ∃ op, t[p + 1]? = some op ∧ op.g = 1 ∧ op.act = .start
  early : ∀ i op, t[i]? = some op → i < p → op.g = 0
  late : ∀ i op, t[i]? = some op → p + 1 < i → LateO nf c o sz op
section
variable {nf c sz sz' p : Nat} {o o' : Who} {t u : Trace}
theorem TouchO.mono {me : Bool} {l : Loc} {wr : Bool} (h : TouchO nf c me o sz l wr) (hs : sz ≤ sz') (ho : ∀ k, k < sz → o' k = o k) : TouchO nf c me o' sz' l wr := by
  obtain ⟨k, h1, h2, h3⟩ := h
  exact ⟨k, h1, by omega, h3.imp (fun x => ⟨x.1, (ho k h2).trans x.2⟩) id⟩
theorem LateO.mono {op : MemOp} (h : LateO nf c o sz op) (hs : sz ≤ sz') (ho : ∀ k, k < sz → o' k = o k) : LateO nf c o' sz' op :=
  ⟨h.1, fun x hx => (h.2 x hx).imp (fun y => y.mono hs ho) id⟩
theorem TrO.append (h : TrO nf c o sz t p) (hs : sz ≤ sz') (ho : ∀ k, k < sz → o' k = o k) (hw : Wordless u) (hu : ∀ op ∈ u, LateO nf c o' sz' op) : TrO nf c o' sz' (t ++ u) p := by
  obtain ⟨g, hg, hg1, hg2⟩ := h.go
  obtain ⟨s, hs', hs1, hs2⟩ := h.start
  have hp1 := lt_size_of_getElem? hs'
  refine ⟨h.wordless.append hw, ⟨g, by rw [getElem?_append_old (by omega)]; exact hg, hg1, hg2⟩, ⟨s, by rw [getElem?_append_old hp1]; exact hs', hs1, hs2⟩, fun i op hi hlt => ?_, fun i op hi hlt => ?_⟩
  · rw [getElem?_append_old (by omega)] at hi; exact h.early i op hi hlt
  · rcases getElem?_append_cases hi with ⟨_, hi'⟩ | ⟨_, hm⟩
    · exact (h.late i op hi' hlt).mono hs ho
    · exact hu op hm
theorem deaf_to {n g : Nat} (h : ∀ i op, t[i]? = some op → i ≤ n → ∀ m, op.act = .mark m → op.g = g → Neutral m) : ∀ i, i ≤ n + 1 → t.deaf g i = 0 := by
  intro i
  induction i with
  | zero => exact fun _ => rfl
  | succ i ih =>
    intro hi
    unfold Trace.deaf
    split
    · rename_i hh _ _ heq
      by_cases e : hh = g
      · exact absurd rfl (h i _ heq (by omega) .disable rfl e).ne_disable
      · rw [if_neg e]; exact ih (by omega)
    · rename_i hh _ _ heq
      by_cases e : hh = g
      · exact absurd rfl (h i _ heq (by omega) .enable rfl e).ne_enable
      · rw [if_neg e]; exact ih (by omega)
    · exact ih (by omega)
/-- Behind the worker's close and the receive that finds it, goroutine 0 may do what it will: still no race. -/
structure TrE (nf c : Nat) (o : Who) (sz : Nat) (t : Trace) (p pc pr : Nat) : Prop where
  wordless : ∀ i op, t[i]? = some op → i ≤ pr → ∀ m, op.act = .mark m → Neutral m
  go : ∃ op, t[p]? = some op ∧ op.g = 0 ∧ op.act = .go 1
  start : ∃ op, t[p + 1]? = some op ∧ op.g = 1 ∧ op.act = .start
  early : ∀ i op, t[i]? = some op → i < p → op.g = 0
  late : ∀ i op, t[i]? = some op → p + 1 < i → i ≤ pr → LateO nf c o sz op
  closed : Closed c t pc
  found : ∃ op, t[pr]? = some op ∧ op.g = 0 ∧ op.act = .recvClosed c
  ord : pc < pr
theorem TrE.heard {pc pr : Nat} (h : TrE nf c o sz t p pc pr) {i : Nat} {op : MemOp} (hi : t[i]? = some op) (hle : i ≤ pr) : t.heard i :=
  ⟨op.g, by simp [Trace.g?, hi], deaf_to (n := pr) (fun i op hi hl m hm _ => h.wordless i op hi hl m hm) i (by omega)⟩
theorem TrE.pos {pc pr : Nat} (h : TrE nf c o sz t p pc pr) : p + 1 ≤ pc := by
  obtain ⟨k, hk, hk1, hk2⟩ := h.closed.close
  obtain ⟨g, hg, hg1, hg2⟩ := h.go
  rcases Nat.lt_trichotomy pc p with e | e | e
  · have := h.early pc k hk e; omega
  · rw [e, hg] at hk; cases hk; omega
  · omega
/-- Two touches of one place by the two, one of them a write: not both are allowed. -/
theorem touch_clash (hc : c < nf) {l : Loc} {w1 w2 : Bool} (h0 : TouchO nf c true o sz l w1) (h1 : TouchO nf c false o sz l w2 ∨ l = .obj c) (hw : w1 = true ∨ w2 = true) : False := by
  obtain ⟨k, e1, _, e3⟩ := h0
  rcases h1 with ⟨k', f1, _, f3⟩ | rfl
  · rw [e1] at f1
    injection f1 with f1
    subst f1
    rcases e3 with ⟨a1, a2⟩ | ⟨a1, a2, a3⟩ <;> rcases f3 with ⟨b1, b2⟩ | ⟨b1, b2, b3⟩
    · rw [a2] at b2; cases b2
    · omega
    · omega
    · rw [a3, b3] at hw; rcases hw with h | h <;> cases h
  · simp only [locBlock] at e1
    injection e1 with e1
    subst e1
    rcases e3 with ⟨a1, _⟩ | ⟨_, a2, _⟩
    · omega
    · exact a2 rfl
theorem TrE.noRace {pc pr : Nat} (h : TrE nf c o sz t p pc pr) (hc : c < nf) (said : Bool) : ¬ Race said t := by
  rintro ⟨i, j, hij, ⟨x, y, hx, hy, hloc, _, hwr, _⟩, hn, _⟩
  obtain ⟨oi, hoi, hxi⟩ := touch_of hx
  obtain ⟨oj, hoj, hyj⟩ := touch_of hy
  obtain ⟨g, hg, hg1, hg2⟩ := h.go
  obtain ⟨s, hs, hs1, hs2⟩ := h.start
  obtain ⟨k, hk, hk1, hk2⟩ := h.closed.close
  obtain ⟨r, hr, hr1, hr2⟩ := h.found
  have hpp := h.pos
  have hor := h.ord
  have nip : i ≠ p := by rintro rfl; rw [hg] at hoi; cases hoi; simp [hg2, MemAct.touch?] at hxi
  have nip1 : i ≠ p + 1 := by rintro rfl; rw [hs] at hoi; cases hoi; simp [hs2, MemAct.touch?] at hxi
  have njp : j ≠ p := by rintro rfl; rw [hg] at hoj; cases hoj; simp [hg2, MemAct.touch?] at hyj
  have njp1 : j ≠ p + 1 := by rintro rfl; rw [hs] at hoj; cases hoj; simp [hs2, MemAct.touch?] at hyj
  have nic : i ≠ pc := by rintro rfl; rw [hk] at hoi; cases hoi; simp [hk2, MemAct.touch?] at hxi
  have two : ∀ q op, t[q]? = some op → op.g = 0 ∨ (op.g = 1 ∧ q ≤ pc) := fun q op hq => by
    by_cases e : op.g = 0
    · exact .inl e
    · exact .inr (h.closed.last q op hq e)
  apply hn
  by_cases hi : i < p
  · have gi := h.early i oi hoi hi
    by_cases hj : j < p
    · exact hb_po hij hoi hoj (by rw [gi, h.early j oj hoj hj])
    · rcases two j oj hoj with gj | ⟨gj, _⟩
      · exact hb_po hij hoi hoj (by rw [gi, gj])
      · have e1 : HappensBefore t i p := hb_po hi hoi hg (by rw [gi, hg1])
        have e2 : HappensBefore t p (p + 1) := .single (.inr ⟨.spawn (child := 1) (by simp [Trace.act?, hg, hg2]) (by simp [Trace.act?, hs, hs2]) (by simp [Trace.g?, hs, hs1]), h.heard hg (by omega), h.heard hs (by omega)⟩)
        have e3 : HappensBefore t (p + 1) j := hb_po (by omega) hs hoj (by rw [hs1, gj])
        exact (e1.trans e2).trans e3
  · rcases two i oi hoi with gi | ⟨gi, li⟩ <;> rcases two j oj hoj with gj | ⟨gj, lj⟩
    · exact hb_po hij hoi hoj (by rw [gi, gj])
    · exfalso
      have := h.ord
      have a := (h.late i oi hoi (by omega) (by omega)).2 x hxi
      have b := (h.late j oj hoj (by omega) (by omega)).2 y hyj
      rw [gi] at a
      rw [gj] at b
      have a' : TouchO nf c true o sz x.loc x.write := by rcases a with a | ⟨a, _⟩; exact a; cases a
      refine touch_clash hc (hloc ▸ a') (b.imp (fun z => z) And.right) ?_
      exact hwr
    · by_cases hjr : j ≤ pr
      · exfalso
        have := h.ord
        have a := (h.late i oi hoi (by omega) (by omega)).2 x hxi
        have b := (h.late j oj hoj (by omega) (by omega)).2 y hyj
        rw [gi] at a
        rw [gj] at b
        have b' : TouchO nf c true o sz y.loc y.write := by rcases b with b | ⟨b, _⟩; exact b; cases b
        refine touch_clash hc b' ((a.imp (fun z => z) And.right).imp (fun z => hloc ▸ z) (fun z => hloc ▸ z)) ?_
        exact hwr.symm
      · have e1 : HappensBefore t i pc := hb_po (by omega) hoi hk (by rw [gi, hk1])
        have e2 : HappensBefore t pc pr := .single (.inr ⟨.closed (c := c) (by simp [Trace.act?, hk, hk2]) (by simp [Trace.act?, hr, hr2]), h.heard hk (by omega), h.heard hr (Nat.le_refl _)⟩)
        have e3 : HappensBefore t pr j := hb_po (by omega) hr hoj (by rw [hr1, gj])
        exact (e1.trans e2).trans e3
    · exact hb_po hij hoi hoj (by rw [gi, gj])
theorem TrE.handed {pc pr : Nat} (h : TrE nf c o sz t p pc pr) : t.HandedOver := by
  intro i g hg hne hcount
  obtain ⟨k, hk, hk1, hk2⟩ := h.closed.close
  obtain ⟨r, hr, hr1, hr2⟩ := h.found
  have hor := h.ord
  obtain ⟨x, hx, _, _⟩ := hcount
  obtain ⟨oi, hoi, hxi⟩ := touch_of hx
  have hgi : oi.g = g := by simpa [Trace.g?, hoi] using hg
  obtain ⟨g1, hle⟩ := h.closed.last i oi hoi (by rw [hgi]; exact hne)
  have hne' : i ≠ pc := by rintro rfl; rw [hk] at hoi; cases hoi; simp [hk2, MemAct.touch?] at hxi
  refine ⟨pr, by simp [Trace.g?, hr, hr1], ?_⟩
  have e1 : HappensBefore t i pc := hb_po (by omega) hoi hk (by rw [g1, hk1])
  have e2 : HappensBefore t pc pr := .single (.inr ⟨.closed (c := c) (by simp [Trace.act?, hk, hk2]) (by simp [Trace.act?, hr, hr2]), h.heard hk (by omega), h.heard hr (Nat.le_refl _)⟩)
  exact e1.trans e2
theorem TrE.deaf1 {pc pr : Nat} (h : TrE nf c o sz t p pc pr) (i : Nat) (hi : i ≠ 0) : t.deaf i t.size = 0 := by
  have hor := h.ord
  refine deaf_to (n := t.size) (fun q op hq _ m hm hg => ?_) t.size (by omega)
  obtain ⟨_, hle⟩ := h.closed.last q op hq (by rw [hg]; exact hi)
  exact h.wordless q op hq (by omega) m hm
/-- Behind the receive that finds the channel closed whatever goroutine 0 lists is let by, but for the library's words. -/
theorem TrE.append {pc pr : Nat} (h : TrE nf c o sz t p pc pr) (hu : ∀ op ∈ u, op.g = 0) : TrE nf c o sz (t ++ u) p pc pr := by
  obtain ⟨g, hg, hg1, hg2⟩ := h.go
  obtain ⟨s, hs', hs1, hs2⟩ := h.start
  obtain ⟨r, hr, hr1, hr2⟩ := h.found
  have hp1 := lt_size_of_getElem? hs'
  have hpr := lt_size_of_getElem? hr
  refine ⟨fun i op hi hle => h.wordless i op (by rw [getElem?_append_old (by omega)] at hi; exact hi) hle, ⟨g, by rw [getElem?_append_old (by omega)]; exact hg, hg1, hg2⟩, ⟨s, by rw [getElem?_append_old hp1]; exact hs', hs1, hs2⟩, fun i op hi hlt => ?_, fun i op hi hlt hle => ?_, h.closed.append hu, ⟨r, by rw [getElem?_append_old hpr]; exact hr, hr1, hr2⟩, h.ord⟩
  · rw [getElem?_append_old (by omega)] at hi; exact h.early i op hi hlt
  · rw [getElem?_append_old (by omega)] at hi; exact h.late i op hi hlt hle
end
end Go.Proofs.Ytjkfnjjkjhggfaa
