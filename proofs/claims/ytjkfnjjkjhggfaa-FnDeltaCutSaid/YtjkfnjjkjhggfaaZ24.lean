/- The scripts of a sender and a receiver over a channel with a buffer, both of whom make and write memory; the invariant of the machine; its last phase. The phase behind the close. The open phase, and the theorem of the machine. -/
import Derived.Test.YtjkfnjjkjhggfaaZ23
import Derived.Conc.Starve
set_option linter.unusedSimpArgs false
set_option linter.unusedVariables false
namespace Go.Proofs.Ytjkfnjjkjhggfaa
open Go.Conc

/-- IT COMES TO THE STOP, though the count of draws is turned by others ahead of each step: with no bound for all draws. -/
inductive GoI (P : Program) (Stop : Goroutine → World → Prop) : Goroutine → World → Prop
  | mk {g : Goroutine} {w : World} (hs : g.status = .running) (hd : ∀ d, Stop g (w.at d) ∨ ∃ g' w' es, stepG P true g (w.at d) = .go g' w' es)
      (hk : ∀ d g' w' es, ¬ Stop g (w.at d) → stepG P true g (w.at d) = .go g' w' es → GoI P Stop g' w') : GoI P Stop g w
section
variable {P : Program} {Stop Stop' : Goroutine → World → Prop} {g : Goroutine} {w : World}
theorem GoI.at (h : GoI P Stop g w) (d : Nat) : GoI P Stop g (w.at d) := by
  cases h with
  | mk hs hd hk => exact .mk hs (fun d' => hd d') (fun d' => hk d')
theorem GoI.running (h : GoI P Stop g w) : g.status = .running := by
  cases h with
  | mk hs hd hk => exact hs
theorem GoI.stop (hs : g.status = .running) (h : ∀ d, Stop g (w.at d)) : GoI P Stop g w := .mk hs (fun d => .inl (h d)) (fun d _ _ _ hn => absurd (h d) hn)
theorem GoI.step (hs : g.status = .running) (h : ∀ d, ∃ g' w' es, stepG P true g (w.at d) = .go g' w' es ∧ GoI P Stop g' w') : GoI P Stop g w :=
  .mk hs (fun d => let ⟨g', w', es, h1, _⟩ := h d; .inr ⟨g', w', es, h1⟩) (fun d g' w' es _ h1 => by
    obtain ⟨g2, w2, es2, h2, h3⟩ := h d
    rw [h2] at h1
    cases h1
    exact h3)
theorem GoI.cases (h : GoI P Stop g w) (d : Nat) : Stop g (w.at d) ∨ ∃ g' w' es, stepG P true g (w.at d) = .go g' w' es ∧ GoI P Stop g' w' := by
  cases h with
  | mk hs hd hk =>
    by_cases hn : Stop g (w.at d)
    · exact .inl hn
    · obtain ⟨g', w', es, h1⟩ := (hd d).resolve_left hn
      exact .inr ⟨g', w', es, h1, hk d _ _ _ hn h1⟩
theorem GoI.bind (h : GoI P Stop g w) (hb : ∀ g w, Stop g w → GoI P Stop' g w) : GoI P Stop' g w := by
  induction h with
  | mk hs hd hk ih =>
    refine .mk hs (fun d => ?_) (fun d g' w' es hn h1 => ?_)
    · rcases hd d with h | h
      · exact (hb _ _ h).cases d |>.imp id fun ⟨g', w', es, h1, _⟩ => ⟨g', w', es, h1⟩
      · exact .inr h
    · rename_i g0 w0
      by_cases hst : Stop g0 (w0.at d)
      · rcases (hb _ _ hst).cases d with h | ⟨g2, w2, es2, h2, h3⟩
        · exact absurd h hn
        · have h2 : stepG P true g0 (w0.at d) = .go g2 w2 es2 := h2
          rw [h2] at h1; cases h1; exact h3
      · exact ih d g' w' es hst h1
/-- A run that ends so. -/
def Runs (P : Program) (Q : Machine → Outcome → World → Trace → Prop) (m : Machine) (t : Trace) : Prop := ∃ n last o w t', runNT P (n + 1) m t = (.ended o w, t') ∧ runN P n m = .next last ∧ step P last = .ended o w ∧ Q last o w t'
theorem Runs.ended {Q : Machine → Outcome → World → Trace → Prop} {m : Machine} {t : Trace} {o : Outcome} {w : World} {ops : Trace} (hs : stepT P m = (.ended o w, ops)) (hq : Q m o w (t ++ ops)) : Runs P Q m t := ⟨0, m, o, w, t ++ ops, by simp [runNT, hs], rfl, by simp [Go.step, hs], hq⟩
theorem Runs.next {Q : Machine → Outcome → World → Trace → Prop} {m m' : Machine} {t ops : Trace} (hs : stepT P m = (.next m', ops)) (h : Runs P Q m' (t ++ ops)) : Runs P Q m t := by
  obtain ⟨n, last, o, w, t', h1, h2, h3, h4⟩ := h
  exact ⟨n + 1, last, o, w, t', by rw [runNT_succ_next hs]; exact h1, by rw [runN_succ_next hs]; exact h2, h3, h4⟩
theorem runs_of_inv {α : Type} {r : α → α → Prop} (wf : WellFounded r) (Inv : α → Machine → Trace → Prop) (Q : Machine → Outcome → World → Trace → Prop)
    (h : ∀ μ m t, Inv μ m t → Runs P Q m t ∨ ∃ m' ops μ', stepT P m = (.next m', ops) ∧ r μ' μ ∧ Inv μ' m' (t ++ ops)) : ∀ μ m t, Inv μ m t → Runs P Q m t := by
  intro μ
  induction μ using wf.induction with
  | _ μ ih =>
    intro m t hI
    rcases h μ m t hI with h | ⟨m', ops, μ', hs, hr, hI'⟩
    · exact h
    · exact .next hs (ih μ' hr m' (t ++ ops) hI')
end
section
variable (P : Program) (nf c cap : Nat) (z : Value) (Vok : Value → Prop) (Fact : List Value → World → Who → Prop) (Post : Value → World → Prop)
/-- It stands at goroutine 0's return. -/
def AtRet (g : Goroutine) (w : World) : Prop := g.status = .running ∧ ∃ v es, stepG P true g w = .ended (.done v) w es ∧ Post v w
/-- .. and comes there, the count of draws alone being turned. -/
def RetO (g : Goroutine) (w : World) : Prop := GoI P (AtRet P Post) g w
def AtSendO (Next : Value → Goroutine → World → Who → Prop) (g : Goroutine) (w : World) (o : Who) : Prop :=
  g.status = .running ∧ ∃ g2 v zz es, stepG P false g w = .comm g2 #[scase c v zz] true .send w es ∧ (∀ e ∈ es, EvO nf c false o w.heap.size e) ∧ Vok v ∧ ∀ w1 o1, RO nf c false w o w1 o1 → Next v (Conc.served g2 undef) w1 o1
def AtCloseO (done : List Value) (g : Goroutine) (w : World) (o : Who) : Prop :=
  g.status = .running ∧ mayWake P g = true ∧ Fact done w o ∧ ∃ (g2 : Goroutine) (es : Array Event) (n : Nat), (∀ buf s r tm, w.heap[c]? = some (.chan cap buf false s r tm) → stepG P false g w = .go g2 (w.setChan c cap buf true s r tm) (es.push ⟨.obj c, true, true⟩)) ∧
    (∀ e ∈ es, EvO nf c false o w.heap.size e ∨ e.loc = .obj c) ∧ QuitsIn P n g2
/-- THE SENDER: so many messages are left; these it has sent. -/
def SendsO : Nat → List Value → Goroutine → World → Who → Prop
  | 0, done => fun g w o => ∃ n, GoesO P nf c false (AtCloseO P nf c cap Fact done) n g w o
  | k + 1, done => fun g w o => ∃ n, GoesO P nf c false (AtSendO P nf c Vok fun v => SendsO k (done ++ [v])) n g w o
def StopS : Nat → List Value → Goroutine → World → Who → Prop
  | 0, done => AtCloseO P nf c cap Fact done
  | k + 1, done => AtSendO P nf c Vok fun v => SendsO P nf c cap Vok Fact k (done ++ [v])
theorem sendsO_iff (k : Nat) (done : List Value) (g : Goroutine) (w : World) (o : Who) : SendsO P nf c cap Vok Fact k done g w o ↔ ∃ n, GoesO P nf c false (StopS P nf c cap Vok Fact k done) n g w o := by
  cases k <;> exact Iff.rfl
def AtRecvO (Next : Goroutine → World → Who → Prop) (g : Goroutine) (w : World) (o : Who) : Prop :=
  g.status = .running ∧ ∃ es, stepG P true g w = .comm (core g) #[rcase c z] true (.recv true) w es ∧ (∀ e ∈ es, EvO nf c true o w.heap.size e) ∧ ∀ w1 o1, RO nf c true w o w1 o1 → Next (core g) w1 o1
/-- THE RECEIVER: so many are left; these it has received. -/
def RecvsO : Nat → List Value → Goroutine → World → Who → Prop
  | 0, got => fun g w o => ∃ n, GoesO P nf c true (AtRecvO P nf c z fun g2 w1 o1 => Fact got w1 o1 → RetO P Post (Conc.served g2 (.tuple #[z, .bool false])) w1) n g w o
  | k + 1, got => fun g w o => ∃ n, GoesO P nf c true (AtRecvO P nf c z fun g2 w1 o1 => ∀ v, Vok v → RecvsO k (got ++ [v]) (Conc.served g2 (.tuple #[v, .bool true])) w1 o1) n g w o
def StopR : Nat → List Value → Goroutine → World → Who → Prop
  | 0, got => AtRecvO P nf c z fun g2 w1 o1 => Fact got w1 o1 → RetO P Post (Conc.served g2 (.tuple #[z, .bool false])) w1
  | k + 1, got => AtRecvO P nf c z fun g2 w1 o1 => ∀ v, Vok v → RecvsO P nf c z Vok Fact Post k (got ++ [v]) (Conc.served g2 (.tuple #[v, .bool true])) w1 o1
theorem recvsO_iff (k : Nat) (got : List Value) (g : Goroutine) (w : World) (o : Who) : RecvsO P nf c z Vok Fact Post k got g w o ↔ ∃ n, GoesO P nf c true (StopR P nf c z Vok Fact Post k got) n g w o := by
  cases k <;> exact Iff.rfl
/-- Where the receiver stands: on its way, or waiting. -/
def SitR (k : Nat) (got : List Value) (ra : Nat) (a : Goroutine) (w : World) (o : Who) : Prop :=
  (∃ n, ra = n + 1 ∧ GoesO P nf c true (StopR P nf c z Vok Fact Post k got) n a w o) ∨
  (ra = 0 ∧ ∃ g, a = parked (core g) #[rcase c z] (.recv true) ∧ ∀ w1 o1, RO nf c true w o w1 o1 → StopR P nf c z Vok Fact Post k got g w1 o1)
def SitS (k : Nat) (done : List Value) (rb : Nat) (b : Goroutine) (w : World) (o : Who) : Prop :=
  (∃ n, rb = n + 1 ∧ GoesO P nf c false (StopS P nf c cap Vok Fact k done) n b w o) ∨
  (rb = 0 ∧ ∃ k' v g2 zz, k = k' + 1 ∧ b = parked g2 #[scase c v zz] .send ∧ Vok v ∧ ∀ w1 o1, RO nf c false w o w1 o1 → SendsO P nf c cap Vok Fact k' (done ++ [v]) (Conc.served g2 undef) w1 o1)
inductive InvO : Nat × Nat → Machine → Trace → Prop
  | opn (ks : Nat) (got buf : List Value) (a b : Goroutine) (w : World) (o : Who) (sl : Option (Nat × Nat)) (t : Trace) (s r : Nat) (tm : Bool) (ra rb p : Nat)
      (hn : nf ≤ w.heap.size) (hc : w.heap[c]? = some (.chan cap buf.toArray false s r tm)) (hl : buf.length ≤ cap) (hA : SitR P nf c z Vok Fact Post (ks + buf.length) got ra a w o) (hB : SitS P nf c cap Vok Fact ks (got ++ buf) rb b w o)
      (hV : ∀ v ∈ buf, Vok v) (ha0 : ra = 0 → buf = []) (hb0 : rb = 0 → buf.length = cap) (hT : TrO nf c o w.heap.size t p) :
      InvO (ks + (ks + buf.length) + 2, ra + rb) (duo a b w sl) t
  | shut (got buf : List Value) (a b : Goroutine) (w : World) (o : Who) (sl : Option (Nat × Nat)) (t : Trace) (s r : Nat) (tm : Bool) (n k p pc : Nat)
      (hn : nf ≤ w.heap.size) (hc : w.heap[c]? = some (.chan cap buf.toArray true s r tm)) (hF : Fact (got ++ buf) w o) (hV : ∀ v ∈ buf, Vok v) (hA : GoesO P nf c true (StopR P nf c z Vok Fact Post buf.length got) n a w o) (hB : QuitsIn P k b) (hT : TrO nf c o w.heap.size t p) (hC : Closed c t pc) :
      InvO (buf.length + 1, n + k) (duo a b w sl) t
  | fin (a b : Goroutine) (w : World) (o : Who) (sz : Nat) (sl : Option (Nat × Nat)) (t : Trace) (k p pc pr : Nat)
      (hA : RetO P Post a w) (hB : QuitsIn P k b) (hT : TrE nf c o sz t p pc pr) :
      InvO (0, 0) (duo a b w sl) t
end
section
variable {P : Program} {nf c cap : Nat} {z : Value} {Vok : Value → Prop} {Fact : List Value → World → Who → Prop} {Post : Value → World → Prop}
theorem ops0 (fn : FuncId) (pos : String) (es : Array Event) : ∀ op ∈ MemOp.ofEvents 0 fn pos es, op.g = 0 := by
  rw [ofEvents_eq]
  intro op hop
  obtain ⟨e, _, rfl⟩ := Array.mem_map.1 hop
  rfl
theorem finO_step (hcn : c < nf) {a : Goroutine} {w : World} (hra : a.status = .running) (hd : ∀ d, AtRet P Post a (w.at d) ∨ ∃ g' w' es, stepG P true a (w.at d) = .go g' w' es)
    (hk : ∀ d g' w' es, ¬ AtRet P Post a (w.at d) → stepG P true a (w.at d) = .go g' w' es → GoI P (AtRet P Post) g' w')
    (ih : ∀ d g' w' es, ¬ AtRet P Post a (w.at d) → stepG P true a (w.at d) = .go g' w' es → ∀ (k : Nat) (b : Goroutine) (d0 : Nat) (o : Who) (sz : Nat) (sl : Option (Nat × Nat)) (t : Trace) (p pc pr : Nat), QuitsIn P k b → TrE nf c o sz t p pc pr → Runs P (Go.Conc.Good P Post) (duo g' b (w'.at d0) sl) t)
    {k : Nat} (ihk : ∀ k', k = k' + 1 → ∀ (b : Goroutine) (d0 : Nat) (o : Who) (sz : Nat) (sl : Option (Nat × Nat)) (t : Trace) (p pc pr : Nat), QuitsIn P k' b → TrE nf c o sz t p pc pr → Runs P (Go.Conc.Good P Post) (duo a b (w.at d0) sl) t)
    (b : Goroutine) (d0 : Nat) (o : Who) (sz : Nat) (sl : Option (Nat × Nat)) (t : Trace) (p pc pr : Nat) (hB : QuitsIn P k b) (hT : TrE nf c o sz t p pc pr) : Runs P (Go.Conc.Good P Post) (duo a b (w.at d0) sl) t := by
  have sB := hB.status
  have awB : awake b := awake_of (sB.elim .inl fun h => .inr (.inr h))
  obtain ⟨d, sl', hmv⟩ := duo_pick (P := P) (w := w.at d0) (sl := sl) (awake_of (.inl hra)) awB (.inl hra)
  have e : (w.at d0).at d = w.at d := rfl
  rw [e] at hmv
  rcases hmv with ⟨_, hst⟩ | ⟨hrb, hst⟩
  · by_cases hstop : AtRet P Post a (w.at d)
    · obtain ⟨_, v, es, hend, hpost⟩ := hstop
      have hT2 := hT.append (ops0 a.frame.fn a.frame.place es)
      refine .ended (hst.trans (runT_duo0_ended hend)) ⟨v, rfl, hpost, hT2.noRace hcn, hT2.handed, ⟨?_, rfl⟩, ?_⟩
      · intro g hg
        have : g = b := by simpa [duo] using hg
        rw [this]
        exact ⟨k, hB.leaves⟩
      · intro i g hg hne
        match i, hg, hne with
        | 0, _, hne => exact absurd rfl hne
        | 1, hg, _ =>
          have : g = b := by simpa [duo] using hg.symm
          rw [this, hT2.deaf1 1 (by omega)]
          exact ⟨k, hB.hears _ 0⟩
        | i + 2, hg, _ => simp [duo] at hg
    · obtain ⟨a', w', es, hgo⟩ := (hd d).resolve_left hstop
      refine .next (hst.trans (runT_duo0 hgo)) ?_
      rw [woken_quits hB]
      exact ih d a' w' es hstop hgo k b w'.drawn o sz sl' _ p pc pr hB (hT.append (ops0 _ _ _))
  · cases k with
    | zero => rw [show b.status = .finished from hB] at hrb; cases hrb
    | succ k =>
      rcases hB with h | ⟨_, b', hw, hq⟩
      · rw [h] at hrb; cases hrb
      · refine .next (hst.trans (runT_duo1 (hw _))) ?_
        rw [woken_running hra, ofEvents_none, Array.append_empty]
        exact ihk k rfl b' d o sz sl' t p pc pr hq hT
theorem finO (hcn : c < nf) {a : Goroutine} {w : World} (hA : GoI P (AtRet P Post) a w) :
    ∀ (k : Nat) (b : Goroutine) (d0 : Nat) (o : Who) (sz : Nat) (sl : Option (Nat × Nat)) (t : Trace) (p pc pr : Nat), QuitsIn P k b → TrE nf c o sz t p pc pr → Runs P (Go.Conc.Good P Post) (duo a b (w.at d0) sl) t := by
  induction hA with
  | @mk a w hra hd hk ih =>
    intro k
    induction k with
    | zero => exact fun b d0 o sz sl t p pc pr hB hT => finO_step hcn hra hd hk ih (fun k' h => by omega) b d0 o sz sl t p pc pr hB hT
    | succ k ihk => exact fun b d0 o sz sl t p pc pr hB hT => finO_step hcn hra hd hk ih (fun k' h => by cases h; exact ihk) b d0 o sz sl t p pc pr hB hT
end
end Go.Proofs.Ytjkfnjjkjhggfaa
set_option linter.unusedSimpArgs false
set_option linter.unusedVariables false
namespace Go.Proofs.Ytjkfnjjkjhggfaa
open Go.Conc

section
variable {nf c sz p pc : Nat} {o : Who} {t : Trace}
theorem late_evO {me : Bool} {g : Nat} (hg : g = if me then 0 else 1) {fn : FuncId} {pos : String} {es : Array Event} (h : ∀ e ∈ es, EvO nf c me o sz e ∨ (g = 1 ∧ e.loc = .obj c)) :
    Wordless (MemOp.ofEvents g fn pos es) ∧ ∀ op ∈ MemOp.ofEvents g fn pos es, LateO nf c o sz op ∧ op.g = g := by
  have hmk : ∀ e ∈ es, ∀ m, e.loc = .mark m → Neutral m := fun e he m hm => by
    rcases h e he with (⟨m', h1, h2⟩ | ⟨k, h1, _⟩) | ⟨_, h1⟩
    · rw [hm] at h1; injection h1 with h1; rw [h1]; exact h2
    · rw [hm] at h1; simp [locBlock] at h1
    · rw [hm] at h1; cases h1
  rw [ofEvents_eq]
  refine ⟨fun op hop => ?_, fun op hop => ?_⟩ <;> obtain ⟨e, he, rfl⟩ := Array.mem_map.1 hop
  · exact ofEvent_noMark (hmk e he)
  · refine ⟨⟨by rw [hg]; cases me <;> simp, fun x hx => ?_⟩, rfl⟩
    obtain ⟨h1, h2⟩ := ofEvent_touch (hmk e he) hx
    rcases h e he with (⟨m, h3, h4⟩ | h3) | ⟨h3, h4⟩
    · exfalso
      obtain ⟨loc, wr, sy⟩ := e
      simp only at h3
      subst h3
      have e1 : MemAct.ofEvent ⟨.mark m, wr, sy⟩ = .mark m := by cases wr <;> cases sy <;> rfl
      rw [e1, h4.touch] at hx
      cases hx
    · left
      rw [h1, h2]
      have : (g == 0) = me := by rw [hg]; cases me <;> rfl
      rw [this]; exact h3
    · exact .inr ⟨h3, by rw [h1]; exact h4⟩
theorem late_comm {ops : Array MemOp} (h : ∀ op ∈ ops, (op.g = 0 ∨ op.g = 1) ∧ op.act.touch? = none ∧ ∀ m, op.act = .mark m → Neutral m) : Wordless ops ∧ ∀ op ∈ ops, LateO nf c o sz op :=
  ⟨fun op hop => (h op hop).2.2, fun op hop => ⟨(h op hop).1, fun x hx => by rw [(h op hop).2.1] at hx; cases hx⟩⟩
theorem TrO.same (h : TrO nf c o sz t p) {u : Trace} (hu : Wordless u ∧ ∀ op ∈ u, LateO nf c o sz op) : TrO nf c o sz (t ++ u) p := h.append (Nat.le_refl _) (fun _ _ => rfl) hu.1 hu.2
theorem TrO.found (h : TrO nf c o sz t p) (hC : Closed c t pc) {y : MemOp} (h0 : y.g = 0) (h1 : y.act = .recvClosed c) : TrE nf c o sz (t ++ #[y]) p pc t.size := by
  have hT2 := h.same (u := #[y]) (late_comm (by simp [h0, h1, MemAct.touch?]))
  obtain ⟨k, hk, _⟩ := hC.close
  refine ⟨fun i op hi _ => hT2.wordless op (mem_of_getElem? hi), hT2.go, hT2.start, hT2.early, fun i op hi hlt _ => hT2.late i op hi hlt, hC.append (by simp [h0]), ⟨y, ?_, h0, h1⟩, lt_size_of_getElem? hk⟩
  rw [Array.getElem?_append]
  simp
end
section
variable {P : Program} {nf c cap : Nat} {z : Value} {Vok : Value → Prop} {Fact : List Value → World → Who → Prop} {Post : Value → World → Prop}
theorem StopR.running {k : Nat} {got : List Value} {g : Goroutine} {w : World} {o : Who} (h : StopR P nf c z Vok Fact Post k got g w o) : g.status = .running := by cases k <;> exact h.1
theorem StopS.running {k : Nat} {done : List Value} {g : Goroutine} {w : World} {o : Who} (h : StopS P nf c cap Vok Fact k done g w o) : g.status = .running := by cases k <;> exact h.1
theorem StopR.comm {k : Nat} {got : List Value} {g : Goroutine} {w : World} {o : Who} (h : StopR P nf c z Vok Fact Post k got g w o) : ∃ es, stepG P true g w = .comm (core g) #[rcase c z] true (.recv true) w es ∧ ∀ e ∈ es, EvO nf c true o w.heap.size e := by
  cases k <;> exact let ⟨_, es, h1, h2, _⟩ := h; ⟨es, h1, h2⟩
theorem StopR.more {k : Nat} {got : List Value} {g : Goroutine} {w : World} {o : Who} (h : StopR P nf c z Vok Fact Post (k + 1) got g w o) : ∀ w1 o1, RO nf c true w o w1 o1 → ∀ v, Vok v → RecvsO P nf c z Vok Fact Post k (got ++ [v]) (Conc.served (core g) (.tuple #[v, .bool true])) w1 o1 :=
  let ⟨_, _, _, _, h3⟩ := h; h3
theorem StopR.last {got : List Value} {g : Goroutine} {w : World} {o : Who} (h : StopR P nf c z Vok Fact Post 0 got g w o) : ∀ w1 o1, RO nf c true w o w1 o1 → Fact got w1 o1 → RetO P Post (Conc.served (core g) (.tuple #[z, .bool false])) w1 :=
  let ⟨_, _, _, _, h3⟩ := h; h3
theorem heap_chan {w : World} {ob ob' : Obj} (h : w.heap[c]? = some ob) : ({ w with heap := w.heap.setIfInBounds c ob' } : World).heap[c]? = some ob' := heap_put h
theorem stepO_shut (hcn : c < nf) (hFs : ∀ vs w o w1 o1, RO nf c false w o w1 o1 → Fact vs w o → Fact vs w1 o1) {got buf : List Value} {a b : Goroutine} {w : World} {o : Who} {sl : Option (Nat × Nat)} {t : Trace} {s r : Nat} {tm : Bool} {n k p pc : Nat}
    (hn : nf ≤ w.heap.size) (hc : w.heap[c]? = some (.chan cap buf.toArray true s r tm)) (hF : Fact (got ++ buf) w o) (hV : ∀ v ∈ buf, Vok v) (hA : GoesO P nf c true (StopR P nf c z Vok Fact Post buf.length got) n a w o) (hB : QuitsIn P k b) (hT : TrO nf c o w.heap.size t p) (hC : Closed c t pc) :
    ∃ m' ops μ', stepT P (duo a b w sl) = (.next m', ops) ∧ Lt2 μ' (buf.length + 1, n + k) ∧ InvO P nf c cap z Vok Fact Post μ' m' (t ++ ops) := by
  have hra : a.status = .running := hA.running (fun _ _ _ => StopR.running)
  have sB := hB.status
  have awB : awake b := awake_of (sB.elim .inl fun h => .inr (.inr h))
  have hbs : b.status ≠ .blocked ∨ b.offers = none := .inl (by rcases sB with h | h <;> rw [h] <;> simp)
  obtain ⟨d, sl', hmv⟩ := duo_pick (P := P) (w := w) (sl := sl) (awake_of (.inl hra)) awB (.inl hra)
  have hAs : RO nf c true w o (w.at d) o := (RO.refl ..).at d
  have hBs : RO nf c false w o (w.at d) o := (RO.refl ..).at d
  have hc1 : (w.at d).heap[c]? = some (.chan cap buf.toArray true s r tm) := hc
  rcases hmv with ⟨_, hst⟩ | ⟨hrb, hst⟩
  · rcases hA.cases with hstop | ⟨n', rfl, hstep⟩
    · have hat := hstop _ _ hAs
      obtain ⟨es, hcomm, hes⟩ := hat.comm
      have hL := late_evO (nf := nf) (c := c) (o := o) (sz := w.heap.size) (me := true) (g := 0) rfl (fn := a.frame.fn) (pos := a.frame.place) (es := es) (fun e he => .inl (hes e he))
      have hT2 := hT.same ⟨hL.1, fun op hop => (hL.2 op hop).1⟩
      have hC2 := hC.append (fun op hop => (hL.2 op hop).2)
      cases buf with
      | nil =>
        have hnr := hat.last _ _ (RO.refl ..) (by have := hFs _ _ _ _ _ hBs hF; rwa [List.append_nil] at this)
        refine ⟨_, _, (0, 0), hst.trans (runT_recv_shut hcomm hc1 hbs), .left _ _ (by simp), ?_⟩
        rw [← Array.append_assoc]
        exact .fin _ b _ o w.heap.size sl' _ k p pc _ hnr hB (hT2.found hC2 rfl rfl)
      | cons v buf' =>
        have hR2 : RO nf c true (w.at d) o ((w.at d).setChan c cap buf'.toArray true s (r + 1) tm) o := RO.chan ..
        have hR3 : RO nf c false (w.at d) o ((w.at d).setChan c cap buf'.toArray true s (r + 1) tm) o := RO.chan ..
        obtain ⟨na, hna⟩ := (recvsO_iff P nf c z Vok Fact Post buf'.length (got ++ [v]) _ _ _).1 (hat.more _ _ hR2 v (hV v (by simp)))
        have hex : ((v :: buf').toArray.extract 1 (v :: buf').toArray.size) = buf'.toArray := by simp
        have hg0 : (v :: buf').toArray.getD 0 undef = v := by simp
        have hrun := runT_recv_buf (sl := sl') hcomm hc1 (by simp) hbs
        rw [hex, hg0] at hrun
        refine ⟨_, _, (buf'.length + 1, na + k), hst.trans hrun, .left _ _ (by simp), ?_⟩
        rw [← Array.append_assoc]
        refine .shut (got ++ [v]) buf' _ b _ o sl' _ s (r + 1) tm na k p pc (by simp [World.setChan, World.at]; exact hn) (heap_chan hc1) (by have := hFs _ _ _ _ _ (hBs.trans hR3) hF; simpa using this) (fun u hu => hV u (by simp [hu])) hna hB ?_ (hC2.append (by simp))
        have := hT2.same (u := _) (late_comm (nf := nf) (c := c) (o := o) (sz := w.heap.size) (ops := #[{ g := 0, fn := (core a).frame.fn, pos := (core a).frame.place, act := .recv c r cap }, { g := 0, fn := (core a).frame.fn, pos := (core a).frame.place, act := .recvDone c r }]) (by simp [MemAct.touch?]))
        simpa [World.setChan, World.at] using this
    · obtain ⟨a', w', es, hgo, hD, hg'⟩ := hstep _ _ hAs
      have hL := late_evO (nf := nf) (c := c) (o := ext true (w.at d) o) (sz := w'.heap.size) (me := true) (g := 0) rfl (fn := a.frame.fn) (pos := a.frame.place) (es := es) (fun e he => .inl (hD.evs e he))
      refine ⟨_, _, (buf.length + 1, n' + k), hst.trans (runT_duo0 hgo), .right _ (by omega), ?_⟩
      rw [woken_quits hB]
      have hsz := hD.size
      exact .shut got buf a' b w' _ sl' _ s r tm n' k p pc (Nat.le_trans hn hsz) ((hD.block c (Nat.lt_of_lt_of_le hcn hn) (.inl hcn)).trans hc1) (hFs _ _ _ _ _ (hBs.trans hD.ro) hF) hV hg' hB
        (hT.append hsz (fun k hk => by simp [ext, World.at, hk]) hL.1 fun op hop => (hL.2 op hop).1) (hC.append fun op hop => (hL.2 op hop).2)
  · cases k with
    | zero => rw [show b.status = .finished from hB] at hrb; cases hrb
    | succ k =>
      rcases hB with h | ⟨_, b', hw, hq⟩
      · rw [h] at hrb; cases hrb
      · refine ⟨_, _, (buf.length + 1, n + k), hst.trans (runT_duo1 (hw _)), .right _ (by omega), ?_⟩
        rw [woken_running hra, ofEvents_none, Array.append_empty]
        exact .shut got buf a b' (w.at d) o sl' t s r tm n k p pc hn hc1 (hFs _ _ _ _ _ hBs hF) hV (hA.rely hAs) hq hT hC
end
end Go.Proofs.Ytjkfnjjkjhggfaa
set_option linter.unusedSimpArgs false
set_option linter.unusedVariables false
namespace Go.Proofs.Ytjkfnjjkjhggfaa
open Go.Conc

section
variable {P : Program} {nf c cap : Nat} {z : Value} {Vok : Value → Prop} {Fact : List Value → World → Who → Prop} {Post : Value → World → Prop}
theorem StopR.againO {k : Nat} {got : List Value} {g : Goroutine} {w : World} {o : Who} (h : StopR P nf c z Vok Fact Post k got g w o) : StopR P nf c z Vok Fact Post k got { parked (core g) #[rcase c z] (.recv true) with status := .running } w o := by
  have e : stepG P true { parked (core g) #[rcase c z] (.recv true) with status := .running } w = stepG P true g w := stepG_same rfl rfl rfl w
  cases k <;> exact let ⟨_, es, h1, h2, h3⟩ := h; ⟨rfl, es, by rw [e]; exact h1, h2, h3⟩
theorem again_open {g : Goroutine} {k : CommCase} {sh : CommShape} {w : World} {buf : Array Value} {s r : Nat} {tm : Bool} (hk : k.chan = .chan (some c)) (hc : w.heap[c]? = some (.chan cap buf false s r tm)) :
    (parked g #[k] sh).again w = parked g #[k] sh := by
  simp [Goroutine.again, parked, hk, hc]
theorem again_closed {g : Goroutine} {k : CommCase} {sh : CommShape} {w : World} {buf : Array Value} {s r : Nat} {tm : Bool} (hk : k.chan = .chan (some c)) (hc : w.heap[c]? = some (.chan cap buf true s r tm)) :
    (parked g #[k] sh).again w = { parked g #[k] sh with status := .running } := by
  simp [Goroutine.again, parked, hk, hc]
section
variable {k : Nat} {vs : List Value} {ra : Nat} {a : Goroutine} {w w1 : World} {o o1 : Who}
theorem SitR.rely (h : SitR P nf c z Vok Fact Post k vs ra a w o) (r : RO nf c true w o w1 o1) : SitR P nf c z Vok Fact Post k vs ra a w1 o1 := by
  rcases h with ⟨n, e, hg⟩ | ⟨e, g, ea, hs⟩
  · exact .inl ⟨n, e, hg.rely r⟩
  · exact .inr ⟨e, g, ea, fun w2 o2 h2 => hs w2 o2 (r.trans h2)⟩
theorem SitS.rely (h : SitS P nf c cap Vok Fact k vs ra a w o) (r : RO nf c false w o w1 o1) : SitS P nf c cap Vok Fact k vs ra a w1 o1 := by
  rcases h with ⟨n, e, hg⟩ | ⟨e, k', v, g2, zz, ek, ea, hvk, hs⟩
  · exact .inl ⟨n, e, hg.rely r⟩
  · exact .inr ⟨e, k', v, g2, zz, ek, ea, hvk, fun w2 o2 h2 => hs w2 o2 (r.trans h2)⟩
theorem SitR.status (h : SitR P nf c z Vok Fact Post k vs ra a w o) : (a.status = .running ∧ 0 < ra) ∨ (a.status = .blocked ∧ ra = 0) := by
  rcases h with ⟨n, e, hg⟩ | ⟨e, g, rfl, _⟩
  · exact .inl ⟨hg.running (fun _ _ _ => StopR.running), by omega⟩
  · exact .inr ⟨rfl, e⟩
theorem SitS.status (h : SitS P nf c cap Vok Fact k vs ra a w o) : (a.status = .running ∧ 0 < ra) ∨ (a.status = .blocked ∧ ra = 0) := by
  rcases h with ⟨n, e, hg⟩ | ⟨e, k', v, g2, zz, ek, rfl, _⟩
  · exact .inl ⟨hg.running (fun _ _ _ => StopS.running), by omega⟩
  · exact .inr ⟨rfl, e⟩
theorem SitR.woken {g g' : Goroutine} {w' : World} {buf : Array Value} {s r : Nat} {tm : Bool} (h : SitR P nf c z Vok Fact Post k vs ra a w o) (hc : w'.heap[c]? = some (.chan cap buf false s r tm)) : Conc.woken P g g' w' a = a := by
  unfold Go.Conc.woken
  split
  · rcases h with ⟨n, e, hg⟩ | ⟨e, g, rfl, _⟩
    · exact again_running _ (.inl (hg.running (fun _ _ _ => StopR.running)))
    · exact again_open rfl hc
  · rfl
theorem SitS.woken {g g' : Goroutine} {w' : World} {buf : Array Value} {s r : Nat} {tm : Bool} (h : SitS P nf c cap Vok Fact k vs ra a w o) (hc : w'.heap[c]? = some (.chan cap buf false s r tm)) : Conc.woken P g g' w' a = a := by
  unfold Go.Conc.woken
  split
  · rcases h with ⟨n, e, hg⟩ | ⟨e, k', v, g2, zz, ek, rfl, _⟩
    · exact again_running _ (.inl (hg.running (fun _ _ _ => StopS.running)))
    · exact again_open rfl hc
  · rfl
end
theorem StopS.send {k : Nat} {done : List Value} {g : Goroutine} {w : World} {o : Who} (h : StopS P nf c cap Vok Fact (k + 1) done g w o) : AtSendO P nf c Vok (fun v => SendsO P nf c cap Vok Fact k (done ++ [v])) g w o := h
theorem closed_new {nf c sz p : Nat} {o : Who} {t : Trace} {y : MemOp} (hT : TrO nf c o sz (t ++ #[y]) p) (h1 : y.g = 1) (h2 : y.act = .close c) : Closed c (t ++ #[y]) t.size := by
  refine ⟨⟨y, by rw [Array.getElem?_append]; simp, h1, h2⟩, fun i op hi hne => ?_⟩
  have hlt := lt_size_of_getElem? hi
  simp at hlt
  obtain ⟨g, hg, hg1, _⟩ := hT.go
  obtain ⟨s, hs, hs1, _⟩ := hT.start
  refine ⟨?_, by omega⟩
  rcases Nat.lt_trichotomy i p with h | h | h
  · exact absurd (hT.early i op hi h) hne
  · subst h; rw [hg] at hi; cases hi; exact absurd hg1 hne
  · by_cases e : i = p + 1
    · subst e; rw [hs] at hi; cases hi; exact hs1
    · exact (hT.late i op hi (by omega)).1.resolve_left hne
set_option maxHeartbeats 1000000 in
theorem stepO_opn (hcn : c < nf) (hcap : 0 < cap) (hFs : ∀ vs w o w1 o1, RO nf c false w o w1 o1 → Fact vs w o → Fact vs w1 o1) {ks : Nat} {got buf : List Value} {a b : Goroutine} {w : World} {o : Who} {sl : Option (Nat × Nat)} {t : Trace} {s r : Nat} {tm : Bool} {ra rb p : Nat}
    (hn : nf ≤ w.heap.size) (hc : w.heap[c]? = some (.chan cap buf.toArray false s r tm)) (hl : buf.length ≤ cap) (hA : SitR P nf c z Vok Fact Post (ks + buf.length) got ra a w o) (hB : SitS P nf c cap Vok Fact ks (got ++ buf) rb b w o)
    (hV : ∀ v ∈ buf, Vok v) (ha0 : ra = 0 → buf = []) (hb0 : rb = 0 → buf.length = cap) (hT : TrO nf c o w.heap.size t p) :
    ∃ m' ops μ', stepT P (duo a b w sl) = (.next m', ops) ∧ Lt2 μ' (ks + (ks + buf.length) + 2, ra + rb) ∧ InvO P nf c cap z Vok Fact Post μ' m' (t ++ ops) := by
  have sA := hA.status
  have sB := hB.status
  have awA : awake a := awake_of (by rcases sA with ⟨h, _⟩ | ⟨h, _⟩ <;> simp [h])
  have awB : awake b := awake_of (by rcases sB with ⟨h, _⟩ | ⟨h, _⟩ <;> simp [h])
  have some1 : a.status = .running ∨ b.status = .running := by
    rcases sA with ⟨h, _⟩ | ⟨_, h0⟩
    · exact .inl h
    · rcases sB with ⟨h, _⟩ | ⟨_, h1⟩
      · exact .inr h
      · have := ha0 h0; have := hb0 h1; subst buf; simp at this; omega
  obtain ⟨d, sl', hmv⟩ := duo_pick (P := P) (w := w) (sl := sl) awA awB some1
  have hAs : RO nf c true w o (w.at d) o := (RO.refl ..).at d
  have hBs : RO nf c false w o (w.at d) o := (RO.refl ..).at d
  have hc1 : (w.at d).heap[c]? = some (.chan cap buf.toArray false s r tm) := hc
  have hn1 : nf ≤ (w.at d).heap.size := hn
  have hch : ∀ me bf cl s' r', RO nf c me (w.at d) o ((w.at d).setChan c cap bf cl s' r' tm) o := fun _ _ _ _ _ => RO.chan ..
  have hsc : ∀ bf cl s' r', ((w.at d).setChan c cap bf cl s' r' tm).heap.size = w.heap.size := fun _ _ _ _ => by simp [World.setChan, World.at]
  rcases hmv with ⟨hra, hst⟩ | ⟨hrb, hst⟩
  · rcases hA with ⟨n, rfl, hg⟩ | ⟨_, g, rfl, _⟩
    · rcases hg.cases with hstop | ⟨n', rfl, hstep⟩
      · have hat := hstop _ _ hAs
        obtain ⟨es, hcomm, hes⟩ := hat.comm
        have hL := late_evO (nf := nf) (c := c) (o := o) (sz := w.heap.size) (me := true) (g := 0) rfl (fn := a.frame.fn) (pos := a.frame.place) (es := es) (fun e he => .inl (hes e he))
        have hT2 := hT.same ⟨hL.1, fun op hop => (hL.2 op hop).1⟩
        cases buf with
        | nil =>
          have hrb : 0 < rb := by
            rcases Nat.eq_zero_or_pos rb with h | h
            · have := hb0 h; simp at this; omega
            · exact h
          have hbs : b.status ≠ .blocked ∨ b.offers = none := .inl (by rcases sB with ⟨h, _⟩ | ⟨_, h⟩; rw [h]; simp; omega)
          refine ⟨_, _, (ks + (ks + 0) + 2, 0 + rb), hst.trans (bf_recv_waits hcomm hc1 hbs), .right _ (by omega), ?_⟩
          exact .opn ks got [] _ b (w.at d) o sl' _ s r tm 0 rb p hn hc1 hl (.inr ⟨rfl, a, rfl, fun w1 o1 h1 => hstop w1 o1 (hAs.trans h1)⟩) (hB.rely hBs) (by simp) (fun _ => rfl) hb0 hT2
        | cons v buf' =>
          have hex : ((v :: buf').toArray.extract 1 (v :: buf').toArray.size) = buf'.toArray := by simp
          have hg0 : (v :: buf').toArray.getD 0 undef = v := by simp
          rcases hB with ⟨k, rfl, hgb⟩ | ⟨rfl, k', v2, g2, zz, rfl, rfl, hvk, hnext⟩
          · have hbs : b.status ≠ .blocked ∨ b.offers = none := .inl (by rw [hgb.running (fun _ _ _ => StopS.running)]; simp)
            have hrun := runT_recv_buf (sl := sl') hcomm hc1 (by simp) hbs
            rw [hex, hg0] at hrun
            obtain ⟨na, hna⟩ := (recvsO_iff P nf c z Vok Fact Post (ks + buf'.length) (got ++ [v]) _ _ _).1 (StopR.more (k := ks + buf'.length) hat _ _ (hch true buf'.toArray false s (r + 1)) v (hV v (by simp)))
            refine ⟨_, _, (ks + (ks + buf'.length) + 2, (na + 1) + (k + 1)), hst.trans hrun, .left _ _ (by simp only [List.length_append, List.length_cons, List.length_nil]; omega), ?_⟩
            rw [← Array.append_assoc]
            refine .opn ks (got ++ [v]) buf' _ b _ o sl' _ s (r + 1) tm (na + 1) (k + 1) p (by rw [hsc]; exact hn) (heap_chan hc1) (by simp at hl; omega) (.inl ⟨na, rfl, hna⟩) (.inl ⟨k, rfl, by have := (hgb.rely hBs).rely (hch false buf'.toArray false s (r + 1)); simpa using this⟩) (fun u hu => hV u (by simp [hu])) (fun h => by omega) (fun h => by omega) ?_
            rw [hsc]
            exact hT2.same (late_comm (by simp [MemAct.touch?]))
          · have hrun := bf_recv_pulls (sl := sl') (b₂ := g2) (v := v2) (z' := zz) hcomm hc1 (by simp) rfl
            rw [hex, hg0] at hrun
            have hbf : buf'.toArray.push v2 = (buf' ++ [v2]).toArray := by simp
            rw [hbf] at hrun
            obtain ⟨na, hna⟩ := (recvsO_iff P nf c z Vok Fact Post (k' + (buf' ++ [v2]).length) (got ++ [v]) _ _ _).1 (by
              have := StopR.more (k := k' + 1 + buf'.length) hat _ _ (hch true (buf' ++ [v2]).toArray false (s + 1) (r + 1)) v (hV v (by simp))
              have e : k' + 1 + buf'.length = k' + (buf' ++ [v2]).length := by simp; omega
              rw [e] at this; exact this)
            obtain ⟨nb, hnb⟩ := (sendsO_iff P nf c cap Vok Fact k' _ _ _ _).1 (hnext _ _ (hBs.trans (hch false (buf' ++ [v2]).toArray false (s + 1) (r + 1))))
            refine ⟨_, _, (k' + (k' + (buf' ++ [v2]).length) + 2, (na + 1) + (nb + 1)), hst.trans hrun, .left _ _ (by simp only [List.length_append, List.length_cons, List.length_nil]; omega), ?_⟩
            rw [← Array.append_assoc]
            refine .opn k' (got ++ [v]) (buf' ++ [v2]) _ _ _ o sl' _ (s + 1) (r + 1) tm (na + 1) (nb + 1) p (by rw [hsc]; exact hn) (heap_chan hc1) (by simp at hl ⊢; omega) (.inl ⟨na, rfl, hna⟩) (.inl ⟨nb, rfl, by simpa using hnb⟩) (fun u hu => by rcases List.mem_append.1 hu with h | h; exact hV u (by simp [h]); simp at h; exact h ▸ hvk) (fun h => by omega) (fun h => by omega) ?_
            rw [hsc]
            exact hT2.same (late_comm (by simp [MemAct.touch?]))
      · obtain ⟨a', w', es, hgo, hD, hg'⟩ := hstep _ _ hAs
        have hL := late_evO (nf := nf) (c := c) (o := ext true (w.at d) o) (sz := w'.heap.size) (me := true) (g := 0) rfl (fn := a.frame.fn) (pos := a.frame.place) (es := es) (fun e he => .inl (hD.evs e he))
        have hsz := hD.size
        have hc' : w'.heap[c]? = some (.chan cap buf.toArray false s r tm) := (hD.block c (Nat.lt_of_lt_of_le hcn hn) (.inl hcn)).trans hc1
        refine ⟨_, _, (ks + (ks + buf.length) + 2, (n' + 1) + rb), hst.trans (runT_duo0 hgo), .right _ (by omega), ?_⟩
        rw [hB.woken hc']
        exact .opn ks got buf a' b w' _ sl' _ s r tm (n' + 1) rb p (Nat.le_trans hn hsz) hc' hl (.inl ⟨n', rfl, hg'⟩) (hB.rely (hBs.trans hD.ro)) hV (fun h => by omega) hb0 (hT.append hsz (fun k hk => by simp [ext, World.at, hk]) hL.1 fun op hop => (hL.2 op hop).1)
    · simp [parked] at hra
  · rcases hB with ⟨k, rfl, hgb⟩ | ⟨_, k', v2, g2, zz, _, rfl, _⟩
    · rcases hgb.cases with hstop | ⟨n', rfl, hstep⟩
      · have hat := hstop _ _ hBs
        cases ks with
        | zero =>
          obtain ⟨_, hwake, hF, g2, es, nq, hclose, hes, hq⟩ := hat
          have hgo := hclose _ s r tm hc1
          have hw3 : ∀ me, RO nf c me (w.at d) o ((w.at d).setChan c cap buf.toArray true s r tm) o := fun me => hch me _ _ _ _
          have hc2 : ((w.at d).setChan c cap buf.toArray true s r tm).heap[c]? = some (.chan cap buf.toArray true s r tm) := heap_chan hc1
          have hwk : ∀ x, Conc.woken P b g2 ((w.at d).setChan c cap buf.toArray true s r tm) x = x.again ((w.at d).setChan c cap buf.toArray true s r tm) := by
            intro x; unfold Go.Conc.woken; rcases hq.status with h | h <;> simp [hwake, h]
          have hA' : ∃ n, GoesO P nf c true (StopR P nf c z Vok Fact Post buf.length got) n (a.again ((w.at d).setChan c cap buf.toArray true s r tm)) ((w.at d).setChan c cap buf.toArray true s r tm) o := by
            rw [Nat.zero_add] at hA
            rcases hA with ⟨n, _, hg⟩ | ⟨_, g, rfl, hs⟩
            · rw [again_running _ (.inl (hg.running (fun _ _ _ => StopR.running)))]
              exact ⟨n, hg.rely (hAs.trans (hw3 true))⟩
            · rw [again_closed rfl hc2]
              exact ⟨0, fun w1 o1 h1 => (hs w1 o1 ((hAs.trans (hw3 true)).trans h1)).againO⟩
          obtain ⟨na, hna⟩ := hA'
          have hL := late_evO (nf := nf) (c := c) (o := o) (sz := w.heap.size) (me := false) (g := 1) rfl (fn := b.frame.fn) (pos := b.frame.place) (es := es) (fun e he => (hes e he).imp id fun h => ⟨rfl, h⟩)
          have hT2 := hT.same ⟨hL.1, fun op hop => (hL.2 op hop).1⟩
          refine ⟨_, _, (buf.length + 1, na + nq), hst.trans (runT_duo1 hgo), .left _ _ (by omega), ?_⟩
          rw [hwk, ofEvents_push, Array.push_eq_append, ← Array.append_assoc]
          have hT3 := hT2.same (u := #[{ g := 1, fn := b.frame.fn, pos := b.frame.place, act := .ofEvent ⟨.obj c, true, true⟩ }]) (late_comm (by simp [MemAct.touch?, MemAct.ofEvent]))
          exact .shut got buf _ g2 _ o sl' _ s r tm na nq p _ (by rw [hsc]; exact hn) hc2 (hFs _ _ _ _ _ (hw3 false) hF) hV hna hq (by rw [hsc]; exact hT3) (closed_new hT3 rfl rfl)
        | succ k1 =>
          obtain ⟨_, g2, v, zz, es, hcomm, hes, hvk, hnext⟩ := hat.send
          have hL := late_evO (nf := nf) (c := c) (o := o) (sz := w.heap.size) (me := false) (g := 1) rfl (fn := b.frame.fn) (pos := b.frame.place) (es := es) (fun e he => .inl (hes e he))
          have hT2 := hT.same ⟨hL.1, fun op hop => (hL.2 op hop).1⟩
          rcases hA with ⟨n, rfl, hg⟩ | ⟨rfl, g, rfl, hs⟩
          · have has : a.status ≠ .blocked ∨ a.offers = none := .inl (by rw [hg.running (fun _ _ _ => StopR.running)]; simp)
            by_cases hroom : buf.length < cap
            · have hrun := runT_send_room (sl := sl') hcomm hc1 (by simpa using hroom) has
              have hbf : buf.toArray.push v = (buf ++ [v]).toArray := by simp
              rw [hbf] at hrun
              obtain ⟨nb, hnb⟩ := (sendsO_iff P nf c cap Vok Fact k1 _ _ _ _).1 (hnext _ _ (hch false (buf ++ [v]).toArray false (s + 1) r))
              refine ⟨_, _, (k1 + (k1 + (buf ++ [v]).length) + 2, (n + 1) + (nb + 1)), hst.trans hrun, .left _ _ (by simp only [List.length_append, List.length_cons, List.length_nil]; omega), ?_⟩
              rw [← Array.append_assoc]
              refine .opn k1 got (buf ++ [v]) a _ _ o sl' _ (s + 1) r tm (n + 1) (nb + 1) p (by rw [hsc]; exact hn) (heap_chan hc1) (by simp; omega) (.inl ⟨n, rfl, ?_⟩) (.inl ⟨nb, rfl, by rw [← List.append_assoc]; exact hnb⟩) (fun u hu => by rcases List.mem_append.1 hu with h | h; exact hV u h; simp at h; exact h ▸ hvk) (fun h => by omega) (fun h => by omega) ?_
              · have e : k1 + (buf ++ [v]).length = k1 + 1 + buf.length := by simp; omega
                rw [e]; exact hg.rely (hAs.trans (hch true _ _ _ _))
              · rw [hsc]
                exact hT2.same (late_comm (by simp [MemAct.touch?]))
            · refine ⟨_, _, (k1 + 1 + (k1 + 1 + buf.length) + 2, (n + 1) + 0), hst.trans (bf_send_full hcomm hc1 (by simpa using hroom) has), .right _ (by omega), ?_⟩
              exact .opn (k1 + 1) got buf a _ (w.at d) o sl' _ s r tm (n + 1) 0 p hn hc1 hl (.inl ⟨n, rfl, hg.rely hAs⟩) (.inr ⟨rfl, k1, v, g2, zz, rfl, rfl, hvk, hnext⟩) hV (fun h => by omega) (fun _ => by omega) hT2
          · have hbn := ha0 rfl
            subst hbn
            have hrun := bf_send_meets (sl := sl') (a₂ := core g) (z := z) hcomm hc1 rfl
            obtain ⟨na, hna⟩ := (recvsO_iff P nf c z Vok Fact Post k1 (got ++ [v]) _ _ _).1 (StopR.more (k := k1) (hs _ _ hAs) _ _ (hch true #[] false (s + 1) (r + 1)) v hvk)
            obtain ⟨nb, hnb⟩ := (sendsO_iff P nf c cap Vok Fact k1 _ _ _ _).1 (hnext _ _ (hch false #[] false (s + 1) (r + 1)))
            refine ⟨_, _, (k1 + (k1 + 0) + 2, (na + 1) + (nb + 1)), hst.trans hrun, .left _ _ (by simp only [List.length_append, List.length_cons, List.length_nil]; omega), ?_⟩
            rw [← Array.append_assoc]
            refine .opn k1 (got ++ [v]) [] _ _ _ o sl' _ (s + 1) (r + 1) tm (na + 1) (nb + 1) p (by rw [hsc]; exact hn) (heap_chan hc1) (by simp) (.inl ⟨na, rfl, hna⟩) (.inl ⟨nb, rfl, by simpa using hnb⟩) (by simp) (fun h => by omega) (fun h => by omega) ?_
            rw [hsc]
            exact hT2.same (late_comm (by simp [MemAct.touch?]))
      · obtain ⟨b', w', es, hgo, hD, hg'⟩ := hstep _ _ hBs
        have hL := late_evO (nf := nf) (c := c) (o := ext false (w.at d) o) (sz := w'.heap.size) (me := false) (g := 1) rfl (fn := b.frame.fn) (pos := b.frame.place) (es := es) (fun e he => .inl (hD.evs e he))
        have hsz := hD.size
        have hc' : w'.heap[c]? = some (.chan cap buf.toArray false s r tm) := (hD.block c (Nat.lt_of_lt_of_le hcn hn) (.inl hcn)).trans hc1
        refine ⟨_, _, (ks + (ks + buf.length) + 2, ra + (n' + 1)), hst.trans (runT_duo1 hgo), .right _ (by omega), ?_⟩
        rw [hA.woken hc']
        exact .opn ks got buf a b' w' _ sl' _ s r tm ra (n' + 1) p (Nat.le_trans hn hsz) hc' hl (hA.rely (hAs.trans hD.ro)) (.inl ⟨n', rfl, hg'⟩) hV ha0 (fun h => by omega) (hT.append hsz (fun k hk => by simp [ext, World.at, hk]) hL.1 fun op hop => (hL.2 op hop).1)
    · simp [parked] at hrb
/-- THE THEOREM OF THE MACHINE. -/
theorem pipelineO (hcn : c < nf) (hcap : 0 < cap) (hFs : ∀ vs w o w1 o1, RO nf c false w o w1 o1 → Fact vs w o → Fact vs w1 o1) {ks : Nat} {a b : Goroutine} {w : World} {o : Who} {sl : Option (Nat × Nat)} {t : Trace} {s r : Nat} {tm : Bool} {p : Nat}
    (hn : nf ≤ w.heap.size) (hc : w.heap[c]? = some (.chan cap #[] false s r tm)) (hA : RecvsO P nf c z Vok Fact Post ks [] a w o) (hB : SendsO P nf c cap Vok Fact ks [] b w o) (hT : TrO nf c o w.heap.size t p) :
    ∃ n last oc w' t', runNT P (n + 1) (duo a b w sl) t = (.ended oc w', t') ∧ runN P n (duo a b w sl) = .next last ∧ step P last = .ended oc w' ∧ Go.Conc.Good P Post last oc w' t' := by
  obtain ⟨na, hna⟩ := (recvsO_iff P nf c z Vok Fact Post ks [] _ _ _).1 hA
  obtain ⟨nb, hnb⟩ := (sendsO_iff P nf c cap Vok Fact ks [] _ _ _).1 hB
  refine runs_of_inv (r := Lt2) (Prod.lex Nat.lt_wfRel Nat.lt_wfRel).wf (InvO P nf c cap z Vok Fact Post) (Go.Conc.Good P Post) ?_ _ _ _
    (.opn ks [] [] a b w o sl t s r tm (na + 1) (nb + 1) p hn hc (by simp) (.inl ⟨na, rfl, hna⟩) (.inl ⟨nb, rfl, hnb⟩) (by simp) (fun h => by omega) (fun h => by omega) hT)
  intro μ m t hI
  match μ, m, t, hI with
  | _, _, _, .opn ks got buf a b w o sl t s r tm ra rb p hn hc hl hA hB hV ha0 hb0 hT => exact .inr (stepO_opn hcn hcap hFs hn hc hl hA hB hV ha0 hb0 hT)
  | _, _, _, .shut got buf a b w o sl t s r tm n k p pc hn hc hF hV hA hB hT hC => exact .inr (stepO_shut hcn hFs hn hc hF hV hA hB hT hC)
  | _, _, _, .fin a b w o sz sl t k p pc pr hA hB hT => exact .inl (finO hcn hA k b w.drawn o sz sl t p pc pr hB hT)
end
end Go.Proofs.Ytjkfnjjkjhggfaa
