/- What is run hangs on the tape by its answers alone: the same answers at another place of another tape, the same run. One step of a plain function under another tape with the same answers. THE TRANSFER behind the last receive: what a plain function does alone on each tape it does where others turn the count of draws ahead of each step. -/
import Derived.Test.YtjkfnjjkjhggfaaZ34
import Derived.Test.YtjkfnjjkjhggfaaZ24
set_option linter.unusedSimpArgs false
set_option linter.unusedVariables false
namespace Go.Proofs.Ytjkfnjjkjhggfaa
open Go.Conc

/-- The world with another tape, at another place of it. -/
def tp (w : World) (τ : Nat → Question → Nat) (d : Nat) : World := { w with tape := τ, drawn := d }
section
variable {P : Program}
@[simp] theorem tp_cell (w : World) (τ : Nat → Question → Nat) (d : Nat) (a : Addr) : (tp w τ d).cell? a = w.cell? a := rfl
@[simp] theorem tp_shape (w : World) (τ : Nat → Question → Nat) (d r : Nat) : (tp w τ d).shape? r = w.shape? r := rfl
@[simp] theorem tp_frozen (w : World) (τ : Nat → Question → Nat) (d : Nat) (a : Addr) : (tp w τ d).frozen? a = w.frozen? a := rfl
@[simp] theorem tp_heap (w : World) (τ : Nat → Question → Nat) (d : Nat) : (tp w τ d).heap = w.heap := rfl
theorem tp_freeze (w : World) (τ : Nat → Question → Nat) (d : Nat) (a : Addr) (n : Nat) : (tp w τ d).freeze a n = tp (w.freeze a n) τ d := by
  unfold World.freeze; split <;> rfl
theorem tp_farLoad (w : World) (τ : Nat → Question → Nat) (d : Nat) (a : Addr) (b : Bool) : (tp w τ d).farLoad P a b = w.farLoad P a b := rfl
theorem tp_noCell (w : World) (τ : Nat → Question → Nat) (d : Nat) (a : Addr) (s : String) : (tp w τ d).noCell a s = w.noCell a s := rfl
theorem tp_viewStore (w : World) (τ : Nat → Question → Nat) (d : Nat) (at_ : Addr) (u : TypeId) (k : Addr) (v : Value) (b : Bool) :
    (tp w τ d).viewStore P at_ u k v b = (w.viewStore P at_ u k v b).map fun x => (tp x.1 τ d, x.2) := by
  unfold World.viewStore
  have : (tp w τ d).seen P at_ u k b = w.seen P at_ u k b := rfl
  rw [this]
  simp only [bind, Except.bind, pure, Except.pure, throw, throwThe, MonadExceptOf.throw, MonadExcept.throw, Except.map]
  by_cases hT : (!tight P P.depth u) = true
  · rw [if_pos hT, if_pos hT]
  · rw [if_neg hT, if_neg hT]
    cases w.seen P at_ u k b with
    | error e => rfl
    | ok r =>
      obtain ⟨c, e, frozen, first, like, cells⟩ := r
      cases v.bytes? with
      | none => rfl
      | some bytes =>
        dsimp only
        by_cases hL : some bytes.length ≠ like.bytes?.map (·.length)
        · rw [if_pos hL, if_pos hL]
        · rw [if_neg hL, if_neg hL]
          generalize hfold : @List.foldlM (Except String) _ (Array Value) (Nat × Nat × List UInt8) _ c cells = F
          cases F <;> rfl
theorem tp_self (w : World) : tp w w.tape w.drawn = w := rfl
theorem tp_farStore (w : World) (τ : Nat → Question → Nat) (d : Nat) (a : Addr) (v : Value) (b : Bool) :
    (tp w τ d).farStore P a v b = (w.farStore P a v b).map fun x => (tp x.1 τ d, x.2) := by
  unfold World.farStore
  simp only [tp_heap]
  split
  · rename_i at_ u _
    rw [tp_viewStore]
    cases w.viewStore P at_ u a v b <;> rfl
  · rfl
theorem farStore_tape {w w' : World} {a : Addr} {v : Value} {b : Bool} {l : List Addr} (h : w.farStore P a v b = .ok (w', l)) : w'.tape = w.tape ∧ w'.drawn = w.drawn := by
  have := tp_farStore (P := P) w w.tape w.drawn a v b
  rw [tp_self, h] at this
  injection this with this
  injection this with this _
  rw [this]
  exact ⟨rfl, rfl⟩
/-- The answers that are asked for are the same. -/
def Agr (w : World) (r : Nat) (τ : Nat → Question → Nat) (d : Nat) : Prop := ∀ j, j < r → τ (d + j) = w.tape (w.drawn + j)
/-- THE SAME RUN. -/
theorem run_follow {α : Type} {Q : α → Prop} (m : Sem α) (hm : Calm P Q m) : ∀ (w : World) (v : α) (w' : World), m.run P w = .ok v w' → w'.tape = w.tape ∧ ∃ r, w'.drawn = w.drawn + r ∧ ∀ τ d, Agr w r τ d → m.run P (tp w τ d) = .ok v (tp w' τ (d + r)) := by
  induction m with
  | pure a => intro w v w' h; cases h; exact ⟨rfl, 0, rfl, fun τ d _ => rfl⟩
  | load m a k ih =>
    intro w v w' h
    simp only [Sem.run] at h
    cases hc : w.cell? a with
    | some x =>
      simp only [hc] at h
      obtain ⟨h1, r, h2, h3⟩ := ih x (hm x) w v w' h
      exact ⟨h1, r, h2, fun τ d ha => by simp only [Sem.run, tp_cell, hc]; exact h3 τ d ha⟩
    | none =>
      simp only [hc] at h
      cases hf : w.farLoad P a (m == .atomic) with
      | error e => simp only [hf] at h; cases h
      | ok x =>
        obtain ⟨x, l⟩ := x
        simp only [hf] at h
        obtain ⟨h1, r, h2, h3⟩ := ih x (hm x) w v w' h
        exact ⟨h1, r, h2, fun τ d ha => by simp only [Sem.run, tp_cell, hc, tp_farLoad, hf]; exact h3 τ d ha⟩
  | store m a x k ih =>
    intro w v w' h
    have key : (match w.cell? a with
      | some _ => if w.frozen? a then .halt (.unsupported (.unsafePointer "a write to bytes that a string shares")) w else k.run P (w.setCell a x)
      | none => match w.farStore P a x (m == .atomic) with
        | .ok (w, _) => k.run P w
        | .error h => .halt h w) = Result.ok v w' → w'.tape = w.tape ∧ ∃ r, w'.drawn = w.drawn + r ∧ ∀ τ d, Agr w r τ d → (match (tp w τ d).cell? a with
      | some _ => if (tp w τ d).frozen? a then .halt (.unsupported (.unsafePointer "a write to bytes that a string shares")) (tp w τ d) else k.run P ((tp w τ d).setCell a x)
      | none => match (tp w τ d).farStore P a x (m == .atomic) with
        | .ok (w, _) => k.run P w
        | .error h => .halt h (tp w τ d)) = Result.ok v (tp w' τ (d + r)) := by
      intro h
      cases hc : w.cell? a with
      | some y =>
        simp only [hc] at h
        by_cases hz : w.frozen? a
        · rw [if_pos hz] at h; cases h
        · rw [if_neg hz] at h
          obtain ⟨h1, r, h2, h3⟩ := ih hm _ v w' h
          exact ⟨h1, r, h2, fun τ d ha => by have hz' : ¬ (tp w τ d).frozen? a = true := hz; simp only [tp_cell, hc]; rw [if_neg hz']; exact h3 τ d ha⟩
      | none =>
        simp only [hc] at h
        cases hf : w.farStore P a x (m == .atomic) with
        | error e => simp only [hf] at h; cases h
        | ok y =>
          obtain ⟨y, l⟩ := y
          simp only [hf] at h
          obtain ⟨e1, e2⟩ := farStore_tape hf
          obtain ⟨h1, r, h2, h3⟩ := ih hm y v w' h
          exact ⟨h1.trans e1, r, by rw [h2, e2], fun τ d ha => by simp only [tp_cell, hc, tp_farStore, hf, Except.map]; exact h3 τ d (fun j hj => by rw [e1, e2]; exact ha j hj)⟩
    cases x with
    | agg _ => cases h
    | tuple _ => cases h
    | _ => exact key h
  | new o k ih =>
    intro w v w' h
    obtain ⟨h1, r, h2, h3⟩ := ih w.heap.size (hm _) _ v w' h
    exact ⟨h1, r, h2, fun τ d ha => h3 τ d ha⟩
  | shape r k ih =>
    intro w v w' h
    obtain ⟨h1, r', h2, h3⟩ := ih _ (hm _) _ v w' h
    exact ⟨h1, r', h2, fun τ d ha => h3 τ d ha⟩
  | freeze a n k ih =>
    intro w v w' h
    have ef : (w.freeze a n).tape = w.tape ∧ (w.freeze a n).drawn = w.drawn := by unfold World.freeze; split <;> exact ⟨rfl, rfl⟩
    obtain ⟨h1, r', h2, h3⟩ := ih hm _ v w' h
    refine ⟨h1.trans ef.1, r', by rw [h2, ef.2], fun τ d ha => ?_⟩
    show k.run P ((tp w τ d).freeze a n) = _
    rw [tp_freeze]
    exact h3 τ d (fun j hj => by rw [ef.1, ef.2]; exact ha j hj)
  | frozen a k ih =>
    intro w v w' h
    obtain ⟨h1, r', h2, h3⟩ := ih _ (hm _) _ v w' h
    exact ⟨h1, r', h2, fun τ d ha => h3 τ d ha⟩
  | getObj r k ih =>
    intro w v w' h
    simp only [Sem.run] at h
    cases ho : w.heap[r]? with
    | none => simp only [ho] at h; cases h
    | some o =>
      cases o with
      | cells _ _ _ => simp only [ho] at h; cases h
      | _ =>
        simp only [ho] at h
        obtain ⟨h1, r', h2, h3⟩ := ih _ (hm _) _ v w' h
        exact ⟨h1, r', h2, fun τ d ha => by simp only [Sem.run, tp_heap, ho]; exact h3 τ d ha⟩
  | setObj r o k ih =>
    intro w v w' h
    simp only [Sem.run] at h
    cases ho : w.heap[r]? with
    | none => simp only [ho] at h; cases h
    | some o' =>
      cases o' with
      | cells _ _ _ => simp only [ho] at h; cases h
      | _ =>
        simp only [ho] at h
        obtain ⟨h1, r', h2, h3⟩ := ih hm _ v w' h
        exact ⟨h1, r', h2, fun τ d ha => by simp only [Sem.run, tp_heap, ho]; exact h3 τ d ha⟩
  | choose q k ih =>
    intro w v w' h
    simp only [Sem.run] at h
    by_cases hq : q.forced
    · rw [if_pos hq] at h
      obtain ⟨h1, r', h2, h3⟩ := ih _ (hm _) _ v w' h
      exact ⟨h1, r', h2, fun τ d ha => by simp only [Sem.run]; rw [if_pos hq]; exact h3 τ d ha⟩
    · rw [if_neg hq] at h
      obtain ⟨h1, r', h2, h3⟩ := ih _ (hm _) _ v w' h
      refine ⟨h1, r' + 1, by rw [h2]; show w.drawn + 1 + r' = _; omega, fun τ d ha => ?_⟩
      simp only [Sem.run]
      rw [if_neg hq]
      have e0 : τ d = w.tape w.drawn := ha 0 (by omega)
      have := h3 τ (d + 1) (fun j hj => by
        have := ha (1 + j) (by omega)
        rw [← Nat.add_assoc, ← Nat.add_assoc] at this
        exact this)
      rw [show d + (r' + 1) = d + 1 + r' by omega]
      rw [← this]
      show (k (q.cut (τ d q))).run P (tp w τ (d + 1)) = _
      rw [e0]
      rfl
  | sys c k ih => exact hm.elim
  | program k ih =>
    intro w v w' h
    obtain ⟨h1, r', h2, h3⟩ := ih _ hm _ v w' h
    exact ⟨h1, r', h2, fun τ d ha => h3 τ d ha⟩
  | mark m k ih =>
    intro w v w' h
    obtain ⟨h1, r', h2, h3⟩ := ih hm.2 _ v w' h
    exact ⟨h1, r', h2, fun τ d ha => h3 τ d ha⟩
  | halt h => intro w v w' h; cases h
end
end Go.Proofs.Ytjkfnjjkjhggfaa
set_option linter.unusedSimpArgs false
set_option linter.unusedVariables false
namespace Go.Proofs.Ytjkfnjjkjhggfaa
open Go.Conc

/-- A step that goes on, and goes so under each tape with the same answers. -/
def Foll (P : Program) (g g' : List Frame → Goroutine) (w w' : World) (r : Nat) : Prop :=
  w'.tape = w.tape ∧ w'.drawn = w.drawn + r ∧ ∀ τ d, Agr w r τ d → ∀ cs, ∃ es, stepG P true (g cs) (tp w τ d) = .go (g' cs) (tp w' τ (d + r)) es
section
variable {P : Program} {F : FuncId → Bool}
def StepF (P : Program) (F : FuncId → Bool) (fr : Frame) (w : World) : Prop :=
  (∃ fr' w' r, Foll P (G fr) (G fr') w w' r ∧ (RunF P F fr' ∨ RetF P F fr')) ∨
  (∃ fr' w' r, Foll P (G fr) (fun cs => G fr' (fr :: cs)) w w' r ∧ RunF P F fr') ∨
  (∃ fr' w' es, (∀ cs, stepG P true (G fr cs) w = .go (G fr' cs) w' es) ∧ BadF P fr') ∨
  (∀ cs, ∃ o w' es, stepG P true (G fr cs) w = .ended o w' es)
theorem Foll.ctl {g g' : List Frame → Goroutine} (h : ∀ w cs, stepG P true (g cs) w = .go (g' cs) w #[]) (w : World) : Foll P g g' w w 0 := ⟨rfl, rfl, fun τ d _ cs => ⟨#[], h _ cs⟩⟩
theorem go_fol {f : FuncId} {a : Act} {k : List Item} {fr : Frame} (hd : a.defers = []) (hf : (P.funcs[f]?).isSome = true) (hk : k.all (okItem F) = true) (h : ∀ w cs, stepG P true (G fr cs) w = .go (G ((base f).at a k) cs) w #[]) (w : World) : StepF P F fr w :=
  .inl ⟨_, w, 0, .ctl h w, .inl ⟨f, a, k, rfl, hd, hf, hk⟩⟩
theorem op_follow (hP : PlainProg P F) {f : FuncId} {a : Act} {k : List Item} {ops : Array Oper} {i : Nat} {rest : List Nat} {w : World} (hd : a.defers = []) (hf : (P.funcs[f]?).isSome = true) (hk : (Item.inRegion ops (i :: rest) :: k).all (okItem F) = true) :
    StepF P F ((base f).at a (.inRegion ops (i :: rest) :: k)) w := by
  cases ho : ops[i]? with
  | none =>
    refine .inl ⟨_, w, 0, .ctl (fun w cs => ?_) w, .inl (finish_run hd hf hk undef)⟩
    simp [G, stepG, stepG.exec, Frame.at, ho]
  | some o =>
    cases hw : Region.wanted o (yielded ops a.tmps) with
    | false =>
      refine .inl ⟨_, w, 0, .ctl (fun w cs => ?_) w, .inl (finish_run hd hf hk undef)⟩
      simp [G, stepG, stepG.exec, Frame.at, ho, hw]
    | true =>
      have hop : okOp F o = true := by
        simp only [List.all_cons, Bool.and_eq_true, okItem] at hk
        exact Array.all_eq_true_iff_forall_mem.1 hk.1 o (Array.mem_of_getElem? ho)
      have hcalm := calm_op hP hop a
      obtain ⟨h1, h2⟩ := calm_runT _ hcalm w #[]
      have hstep : ∀ w cs, stepG P true (G ((base f).at a (.inRegion ops (i :: rest) :: k)) cs) w = stepG.apply P true ((base f).at a (.inRegion ops (i :: rest) :: k)) cs none (execOp a.eval o) w := fun w cs => stepG_oper ho hw
      generalize hr : (execOp a.eval o).runT P w #[] = r at h1 h2
      obtain ⟨r, es⟩ := r
      have hr1 : (execOp a.eval o).run P w = r ∧ (execOp a.eval o).events P w #[] = es := by simpa using hr
      obtain ⟨hr1, hr2⟩ := hr1
      obtain ⟨fn, hfn⟩ := Option.isSome_iff_exists.1 hf
      cases r with
      | ok n w' =>
       obtain ⟨t1, q, t2, t3⟩ := run_follow _ hcalm w n w' hr1
       cases n with
       | value v =>
        refine .inl ⟨_, w', q, ⟨t1, t2, fun τ d ha cs => ?_⟩, .inl (finish_run hd hf hk v)⟩
        have t4 := t3 τ d ha
        refine ⟨seen P f ((execOp a.eval o).events P (tp w τ d) #[]), ?_⟩
        rw [hstep]
        simp [stepG.apply, t4, GStep.after, G, Frame.at, base]
       | skip =>
        refine .inl ⟨_, w', q, ⟨t1, t2, fun τ d ha cs => ?_⟩, .inl (finish_run hd hf hk undef)⟩
        have t4 := t3 τ d ha
        refine ⟨seen P f ((execOp a.eval o).events P (tp w τ d) #[]), ?_⟩
        rw [hstep]
        simp [stepG.apply, t4, GStep.after, G, Frame.at, base]
       | enter f' args =>
        have hf' : F f' = true := h1
        obtain ⟨fn', c', hfn', _, hbody', hcode'⟩ := hP.body f' hf'
        refine .inr (.inl ⟨_, w', q, ⟨t1, t2, fun τ d ha cs => ?_⟩, ⟨f', _, _, enter_at args hfn' hbody', rfl, by rw [hfn']; rfl, by simpa [okItem] using hcode'⟩⟩)
        have t4 := t3 τ d ha
        refine ⟨seen P f ((execOp a.eval o).events P (tp w τ d) #[]), ?_⟩
        rw [hstep]
        simp [stepG.apply, t4, GStep.after, G, Frame.at, base]
       | _ => exact h1.elim
      | halt h w' =>
       have h1 : HaltOk h ∨ ∃ g, h = .unsupported (.initOrder g) := h1
       cases h with
       | panic v =>
        refine .inr (.inr (.inl ⟨((base f).at a (.inRegion ops (i :: rest) :: k)).raise [{ v, recovered := false }], w', seen P f es, fun cs => ?_, ⟨_, rfl⟩, hd, ?_⟩))
        · rw [hstep]
          simp [stepG.apply, hr1, hr2, GStep.after, G, Frame.at, base]
        · show (P.funcs[f]?).isSome = true
          rw [hfn]; rfl
       | stuck s =>
        refine .inr (.inr (.inr fun cs => ?_))
        rw [hstep]
        simp [stepG.apply, hr1, hr2, GStep.after, G, Frame.at, base]
       | unsupported u =>
        refine .inr (.inr (.inr fun cs => ?_))
        rw [hstep]
        by_cases hu : ∃ g, u = .initOrder g
        · obtain ⟨g, rfl⟩ := hu
          simp [stepG.apply, hr1, hr2, GStep.after, G, Frame.at, base, early, hP.early, hP.ahead]
        · cases u <;> first | exact absurd ⟨_, rfl⟩ hu | simp [stepG.apply, hr1, hr2, GStep.after, G, Frame.at, base]
       | _ => rcases h1 with h1 | ⟨g, h1⟩
              · exact h1.elim
              · cases h1
theorem step_follow (hP : PlainProg P F) {fr : Frame} (h : RunF P F fr) (w : World) : StepF P F fr w := by
  obtain ⟨f, a, k, rfl, hd, hf, hk⟩ := h
  have hh : ∀ {x : Item} {l : List Item}, (x :: l).all (okItem F) = true → okItem F x = true ∧ l.all (okItem F) = true := fun h => by simpa using h
  match k, hk with
  | [], _ =>
    exact .inl ⟨_, w, 0, .ctl (fun w cs => stepG_end) w, .inr ⟨f, a, [], rfl, hd, hf⟩⟩
  | .inBlock id :: k, hk => exact go_fol hd hf (hh hk).2 (fun w cs => stepG_inBlock) w
  | .inLoop c :: k, hk => exact go_fol hd hf (by simpa [okItem] using hk) (fun w cs => stepG_inLoop) w
  | .inRegion ops [] :: k, hk => exact go_fol hd hf (hh hk).2 (fun w cs => stepG_region_end) w
  | .inRegion ops (i :: rest) :: k, hk => exact op_follow hP hd hf hk
  | .code c :: k, hk =>
    match c, hk with
    | .skip, hk => exact go_fol hd hf (hh hk).2 (fun w cs => stepG_skip) w
    | .label l, hk => exact go_fol hd hf (hh hk).2 (fun w cs => stepG_label) w
    | .ret, hk => exact .inl ⟨_, w, 0, .ctl (fun w cs => stepG_ret') w, .inr ⟨f, a, _, rfl, hd, hf⟩⟩
    | .seq x y, hk => exact go_fol hd hf (by simpa [okItem, okCode, and_assoc] using hk) (fun w cs => stepG_seq) w
    | .block id c, hk => exact go_fol hd hf (by simpa [okItem, okCode] using hk) (fun w cs => stepG_block) w
    | .loop c, hk => exact go_fol hd hf (by simpa [okItem, okCode] using hk) (fun w cs => stepG_loop) w
    | .region id ops false, hk => exact go_fol hd hf (by simpa [okItem, okCode] using hk) (fun w cs => stepG_region) w
    | .region id ops true, hk =>
      refine .inl ⟨(base f).at a (.inRegion ops (Region.schedule (P.follows .mixedOrders) ops (w.tape w.drawn (.order f id))) :: k), { w with drawn := w.drawn + 1 }, 1, ⟨rfl, rfl, fun τ d ha cs => ⟨#[], ?_⟩⟩, .inl ⟨f, a, _, rfl, hd, hf, by simpa [okItem, okCode] using hk⟩⟩
      rw [stepG_region_draw]
      have e0 : τ d = w.tape w.drawn := ha 0 (by omega)
      show GStep.go (G ((base f).at a (.inRegion ops (Region.schedule (P.follows .mixedOrders) ops (τ d (.order f id))) :: k)) cs) _ _ = _
      rw [e0]
      rfl
    | .cond c x y, hk =>
      have hk' := hh hk
      simp only [okItem, okCode, Bool.and_eq_true] at hk'
      cases hc : a.eval c with
      | bool t =>
        refine go_fol hd hf ?_ (fun w cs => stepG_cond hc) w
        cases t <;> simp [okItem, hk'.1.1, hk'.1.2, hk'.2]
      | _ =>
        refine .inr (.inr (.inr fun cs => ?_))
        have h' : ((base f).at a (.code (.cond c x y) :: k)).eval c = a.eval c := Frame.eval_at ..
        simp only [Frame.at] at h'
        simp [G, stepG, stepG.exec, Frame.at, h', hc]
    | .exit id, hk =>
      cases he : exitTo id k with
      | some k' => exact go_fol hd hf (exitTo_ok he (hh hk).2) (fun w cs => stepG_exit he) w
      | none =>
        refine .inr (.inr (.inr fun cs => ?_))
        simp [G, stepG, stepG.exec, Frame.at, he]
/-- .. and a return. -/
theorem ret_follow {fr : Frame} {fn : Func} (hm : fr.mode = .returning) (hd : fr.defers = []) (hk : fr.kind = .normal) (hf : P.funcs[fr.fn]? = some fn) (w : World) :
    (∃ v w' r, w'.tape = w.tape ∧ w'.drawn = w.drawn + r ∧ (results fn fr.tmps).run P w = .ok v w' ∧ ∀ τ d, Agr w r τ d → ∀ u cs, ∃ es, stepG P true (G fr (u :: cs)) (tp w τ d) = .go (G (u.finish v) cs) (tp w' τ (d + r)) es) ∨ ∀ u cs, ∃ o w' es, stepG P true (G fr (u :: cs)) w = .ended o w' es := by
  have hcalm := cm_results (P := P) fn fr.tmps
  obtain ⟨h1, h2⟩ := calm_runT _ hcalm w #[]
  generalize hr : (results fn fr.tmps).runT P w #[] = r at h1 h2
  obtain ⟨r, es⟩ := r
  have hr1 : (results fn fr.tmps).run P w = r ∧ (results fn fr.tmps).events P w #[] = es := by simpa using hr
  obtain ⟨hr1, hr2⟩ := hr1
  cases r with
  | ok v w' =>
    obtain ⟨t1, q, t2, t3⟩ := run_follow _ hcalm w v w' hr1
    refine .inl ⟨v, w', q, t1, t2, hr1, fun τ d ha u cs => ?_⟩
    have t4 := t3 τ d ha
    refine ⟨seen P fr.fn ((results fn fr.tmps).events P (tp w τ d) #[]), ?_⟩
    simp [stepG, G, unwind, hm, hd, hk, hf, t4, doReturn, GStep.after]
  | halt h w' =>
    refine .inr fun u cs => ?_
    cases h <;> simp [stepG, G, unwind, hm, hd, hk, hf, hr1, hr2, doReturn, GStep.after]
end
end Go.Proofs.Ytjkfnjjkjhggfaa
set_option linter.unusedSimpArgs false
set_option linter.unusedVariables false
namespace Go.Proofs.Ytjkfnjjkjhggfaa
open Go.Conc

section
variable {P : Program} {F : FuncId → Bool} {Q : Frame → World → Prop}
/-- Where it stands: the frame, those above the last. -/
def OkF (P : Program) (F : FuncId → Bool) (fr : Frame) (up : List Frame) : Prop := (RunF P F fr ∨ RetF P F fr) ∧ ∀ u ∈ up, RunF P F u
/-- Alone it comes in N steps to a return that says Q. -/
def TTn (P : Program) (Q : Frame → World → Prop) (N : Nat) (fr : Frame) (up : List Frame) (w : World) : Prop := ∃ frT wT, runN P N (solo (G fr (up ++ [dead])) w) = .next (solo (G frT [dead]) wT) ∧ frT.mode = .returning ∧ Q frT wT
def Blind (Q : Frame → World → Prop) : Prop := ∀ fr w τ d, Q fr w → Q fr (tp w τ d)
abbrev StF (fr : Frame) (up : List Frame) : List Frame → Goroutine := fun cs => G fr (up ++ cs)
def StopT (Q : Frame → World → Prop) (cs : List Frame) (g : Goroutine) (w : World) : Prop := ∃ fr, g = G fr cs ∧ fr.mode = .returning ∧ Q fr w
theorem tp_tp (w : World) (τ τ' : Nat → Question → Nat) (d d' : Nat) : tp (tp w τ d) τ' d' = tp w τ' d' := rfl
theorem tp_eq {w w' : World} {r : Nat} (h1 : w'.tape = w.tape) (h2 : w'.drawn = w.drawn + r) : tp w' w.tape (w.drawn + r) = w' := by rw [← h1, ← h2]; rfl
theorem Foll.self {g g' : List Frame → Goroutine} {w w' : World} {r : Nat} (h : Foll P g g' w w' r) (cs : List Frame) : ∃ es, stepG P true (g cs) w = .go (g' cs) w' es := by
  obtain ⟨h1, h2, h3⟩ := h
  obtain ⟨es, e⟩ := h3 w.tape w.drawn (fun j _ => rfl) cs
  rw [tp_self, tp_eq h1 h2] at e
  exact ⟨es, e⟩
theorem TTn.stop {fr : Frame} {up : List Frame} {w : World} (h : TTn P Q 0 fr up w) : up = [] ∧ fr.mode = .returning ∧ Q fr w := by
  obtain ⟨frT, wT, h1, h2, h3⟩ := h
  obtain ⟨rfl, hu, rfl⟩ := solo_inj h1
  cases up with
  | nil => exact ⟨rfl, h2, h3⟩
  | cons u up => simp at hu
theorem TTn.next {N : Nat} {fr fr' : Frame} {up up' : List Frame} {w w' : World} {es : Array Event} (h : TTn P Q (N + 1) fr up w) (hs : stepG P true (G fr (up ++ [dead])) w = .go (G fr' (up' ++ [dead])) w' es) : TTn P Q N fr' up' w' := by
  obtain ⟨frT, wT, h1, h2, h3⟩ := h
  exact ⟨frT, wT, runN_go rfl hs h1, h2, h3⟩
theorem step_tt (hP : PlainProg P F) {N : Nat} {fr : Frame} {up : List Frame} {w : World} (ok : OkF P F fr up) (h : TTn P Q (N + 1) fr up w) :
    ∃ fr' up' w' r, OkF P F fr' up' ∧ Foll P (StF fr up) (StF fr' up') w w' r := by
  obtain ⟨frT, wT, h1, h2, h3⟩ := h
  obtain ⟨hfr, hup⟩ := ok
  rcases hfr with hfr | hfr
  · rcases step_follow hP hfr w with ⟨fr', w', r, hst, hok⟩ | ⟨fr', w', r, hst, hok⟩ | ⟨fr', w', es, hst, hbad⟩ | hend
    · exact ⟨fr', up, w', r, ⟨hok, hup⟩, hst.1, hst.2.1, fun τ d ha cs => hst.2.2 τ d ha (up ++ cs)⟩
    · exact ⟨fr', fr :: up, w', r, ⟨.inl hok, by intro u hu; rcases List.mem_cons.1 hu with rfl | hu; exact hfr; exact hup u hu⟩, hst.1, hst.2.1, fun τ d ha cs => hst.2.2 τ d ha (up ++ cs)⟩
    · exact (bad_never h2 N fr' up w' hbad (fun u hu => run_low hP (hup u hu)) (runN_go rfl (hst _) h1)).elim
    · obtain ⟨o, w', es, he⟩ := hend (up ++ [dead])
      exact (runN_ended rfl he h1).elim
  · obtain ⟨f, a, k, rfl, hd, hf⟩ := hfr
    obtain ⟨fn, hfn⟩ := Option.isSome_iff_exists.1 hf
    have hst := ret_follow (P := P) (fr := { (base f).at a k with mode := .returning }) (fn := fn) rfl hd rfl hfn w
    cases up with
    | nil =>
      rcases hst with ⟨v, w', r, t1, t2, _, hst⟩ | hend
      · obtain ⟨es, e⟩ := hst w.tape w.drawn (fun j _ => rfl) dead []
        rw [tp_self] at e
        have h' := runN_go rfl e h1
        cases N with
        | zero => have := (solo_inj h').2.1; cases this
        | succ N =>
          obtain ⟨o, w'', es, he⟩ := dead_run (P := P) (tp w' w.tape (w.drawn + r))
          exact (runN_ended rfl he h').elim
      · obtain ⟨o, w', es, he⟩ := hend dead []
        exact (runN_ended rfl he h1).elim
    | cons u up =>
      rcases hst with ⟨v, w', r, t1, t2, _, hst⟩ | hend
      · exact ⟨u.finish v, up, w', r, ⟨.inl (finish_ok (hup u (by simp)) v), fun x hx => hup x (by simp [hx])⟩, t1, t2, fun τ d ha cs => hst τ d ha u (up ++ cs)⟩
      · obtain ⟨o, w', es, he⟩ := hend u (up ++ [dead])
        exact (runN_ended rfl he h1).elim
/-- The same answers from here on: the same. -/
theorem tt_future (hP : PlainProg P F) (hB : Blind Q) : ∀ (N : Nat) (fr : Frame) (up : List Frame) (w : World) (τ τ' : Nat → Question → Nat) (d d' : Nat), OkF P F fr up → (∀ j, τ (d + j) = τ' (d' + j)) → TTn P Q N fr up (tp w τ d) → TTn P Q N fr up (tp w τ' d') := by
  intro N
  induction N with
  | zero =>
    intro fr up w τ τ' d d' _ _ h
    obtain ⟨rfl, h1, h2⟩ := h.stop
    exact ⟨fr, _, rfl, h1, hB fr (tp w τ d) τ' d' h2⟩
  | succ N ih =>
    intro fr up w τ τ' d d' ok hj h
    obtain ⟨fr', up', w', r, ok', hF⟩ := step_tt hP ok h
    obtain ⟨es, e⟩ := hF.self [dead]
    have h2 := h.next e
    obtain ⟨t1, t2, t3⟩ := hF
    obtain ⟨es', e'⟩ := t3 τ' d' (fun j hr => (hj j).symm) [dead]
    rw [tp_tp] at e'
    have e1 : tp w' τ (d + r) = w' := tp_eq (w := tp w τ d) t1 t2
    have h3 := ih fr' up' w' τ τ' (d + r) (d' + r) ok' (fun j => by rw [Nat.add_assoc, Nat.add_assoc]; exact hj (r + j)) (by rw [e1]; exact h2)
    obtain ⟨frT, wT, k1, k2, k3⟩ := h3
    exact ⟨frT, wT, by simp only [runN, step_solo_go (a := G fr (up ++ [dead])) rfl e']; exact k1, k2, k3⟩
/-- What holds along a way that does not come to its stop. -/
structure Lost (P : Program) (F : FuncId → Bool) (Q : Frame → World → Prop) (cs : List Frame) (T : Nat → Question → Nat) (fr : Frame) (up : List Frame) (w : World) : Prop where
  ok : OkF P F fr up
  tape : w.tape = T
  no : ¬ GoI P (fun g w' => StopT Q cs g w' ∧ w'.tape = T) (G fr (up ++ cs)) w
  tt : ∀ τ d, ∃ N, TTn P Q N fr up (tp w τ d)
theorem Lost.next (hP : PlainProg P F) (hB : Blind Q) {cs : List Frame} {fr : Frame} {up : List Frame} {w : World} {T : Nat → Question → Nat} (h : Lost P F Q cs T fr up w) :
    ∃ d fr' up' w' r, Foll P (StF fr up) (StF fr' up') (w.at d) w' r ∧ Lost P F Q cs T fr' up' w' ∧ ¬ StopT Q cs (G fr (up ++ cs)) w := by
  have hn : ¬ StopT Q cs (G fr (up ++ cs)) w := fun hs => h.no (GoI.stop rfl fun d => by
    obtain ⟨fr', h1, h2, h3⟩ := hs
    exact ⟨⟨fr', h1, h2, hB _ w w.tape d h3⟩, h.tape⟩)
  have hstop : ∀ {τ d}, TTn P Q 0 fr up (tp w τ d) → False := fun {τ d} h0 => by
    obtain ⟨rfl, h1, h2⟩ := h0.stop
    exact hn ⟨fr, rfl, h1, hB fr (tp w τ d) w.tape w.drawn h2⟩
  have hex : ∃ d, ∀ g' w' es, stepG P true (G fr (up ++ cs)) (w.at d) = .go g' w' es → ¬ GoI P (fun g w' => StopT Q cs g w' ∧ w'.tape = T) g' w' := by
    refine Classical.byContradiction fun hc => h.no (GoI.step rfl fun d => ?_)
    refine Classical.byContradiction fun hd => hc ⟨d, fun g' w' es e hg => hd ⟨g', w', es, e, hg⟩⟩
  obtain ⟨d, hd⟩ := hex
  obtain ⟨N, hN⟩ := h.tt w.tape d
  cases N with
  | zero => exact (hstop hN).elim
  | succ N =>
    obtain ⟨fr', up', w', r, ok', hF⟩ := step_tt hP h.ok hN
    have hF' : Foll P (StF fr up) (StF fr' up') (w.at d) w' r := hF
    obtain ⟨es, e⟩ := hF'.self cs
    refine ⟨d, fr', up', w', r, hF', ⟨ok', hF'.1.trans h.tape, hd _ _ _ e, fun τ' d' => ?_⟩, hn⟩
    let τ : Nat → Question → Nat := fun j => if j < r then w.tape (d + j) else τ' (d' + (j - r))
    obtain ⟨M, hM⟩ := h.tt τ 0
    cases M with
    | zero => exact (hstop hM).elim
    | succ M =>
      obtain ⟨t1, t2, t3⟩ := hF'
      obtain ⟨es', e'⟩ := t3 τ 0 (fun j hj => by
        show τ (0 + j) = w.tape (d + j)
        simp only [τ, Nat.zero_add, if_pos hj]) [dead]
      have h2 := TTn.next (w := tp w τ 0) hM e'
      refine ⟨M, tt_future hP hB M fr' up' w' τ τ' (0 + r) d' ok' (fun j => ?_) h2⟩
      simp only [τ]
      rw [if_neg (by omega)]
      congr 1
      omega
/-- THE TRANSFER. -/
theorem goi_of_tt (hP : PlainProg P F) (hB : Blind Q) {cs : List Frame} {fr : Frame} {up : List Frame} {w : World} (ok : OkF P F fr up) (tt : ∀ τ d, ∃ N, TTn P Q N fr up (tp w τ d)) : GoI P (fun g w' => StopT Q cs g w' ∧ w'.tape = w.tape) (G fr (up ++ cs)) w := by
  classical
  refine Classical.byContradiction fun hno => ?_
  let S := { s : Frame × List Frame × World // Lost P F Q cs w.tape s.1 s.2.1 s.2.2 }
  have hnx : ∀ s : S, ∃ (t : S) (d r : Nat), Foll P (StF s.1.1 s.1.2.1) (StF t.1.1 t.1.2.1) (s.1.2.2.at d) t.1.2.2 r ∧ ¬ StopT Q cs (G s.1.1 (s.1.2.1 ++ cs)) s.1.2.2 := fun s => by
    obtain ⟨d, fr', up', w', r, h1, h2, h3⟩ := s.2.next hP hB
    exact ⟨⟨(fr', up', w'), h2⟩, d, r, h1, h3⟩
  let nx : S → S := fun s => (hnx s).choose
  let dd : S → Nat := fun s => (hnx s).choose_spec.choose
  let rr : S → Nat := fun s => (hnx s).choose_spec.choose_spec.choose
  have hst : ∀ s : S, Foll P (StF s.1.1 s.1.2.1) (StF (nx s).1.1 (nx s).1.2.1) (s.1.2.2.at (dd s)) (nx s).1.2.2 (rr s) ∧ ¬ StopT Q cs (G s.1.1 (s.1.2.1 ++ cs)) s.1.2.2 := fun s => (hnx s).choose_spec.choose_spec.choose_spec
  let s0 : S := ⟨(fr, up, w), ⟨ok, rfl, hno, tt⟩⟩
  let s : Nat → S := fun i => Nat.rec s0 (fun _ x => nx x) i
  let e : Nat → Nat := fun i => Nat.rec 0 (fun j x => x + rr (s j)) i
  have hs1 : ∀ i, s (i + 1) = nx (s i) := fun _ => rfl
  have he1 : ∀ i, e (i + 1) = e i + rr (s i) := fun _ => rfl
  have hem : ∀ i j, i ≤ j → e i ≤ e j := fun i j h => by
    induction j with
    | zero => have : i = 0 := by omega
              subst this; exact Nat.le_refl _
    | succ j ih =>
      by_cases hij : i = j + 1
      · subst hij; exact Nat.le_refl _
      · have := ih (by omega); have := he1 j; omega
  have htape : ∀ i, (s i).1.2.2.tape = w.tape := fun i => by
    induction i with
    | zero => rfl
    | succ i ih => rw [hs1]; exact (hst (s i)).1.1.trans ih
  let τ : Nat → Question → Nat := fun m => if h : ∃ i, e i ≤ m ∧ m < e (i + 1) then w.tape (dd (s h.choose) + (m - e h.choose)) else fun _ => 0
  have hτ : ∀ i j, j < rr (s i) → τ (e i + j) = w.tape (dd (s i) + j) := fun i j hj => by
    have hx : ∃ i', e i' ≤ e i + j ∧ e i + j < e (i' + 1) := ⟨i, by omega, by rw [he1]; omega⟩
    have hc := hx.choose_spec
    have hi : hx.choose = i := by
      by_cases h1 : hx.choose < i
      · have := hem (hx.choose + 1) i (by omega); omega
      · by_cases h2 : i < hx.choose
        · have := hem (i + 1) hx.choose (by omega); have := he1 i; omega
        · omega
    simp only [τ]
    rw [dif_pos hx, hi]
    congr 2
    omega
  have key : ∀ N i, TTn P Q N (s i).1.1 (s i).1.2.1 (tp (s i).1.2.2 τ (e i)) → False := by
    intro N
    induction N with
    | zero =>
      intro i h
      obtain ⟨hu, h1, h2⟩ := h.stop
      refine (hst (s i)).2 ⟨(s i).1.1, by rw [hu]; rfl, h1, hB _ (tp (s i).1.2.2 τ (e i)) (s i).1.2.2.tape (s i).1.2.2.drawn h2⟩
    | succ N ih =>
      intro i h
      obtain ⟨t1, t2, t3⟩ := (hst (s i)).1
      obtain ⟨es, e'⟩ := t3 τ (e i) (fun j hj => by
        rw [hτ i j hj]
        show w.tape (dd (s i) + j) = (s i).1.2.2.tape (dd (s i) + j)
        rw [htape]) [dead]
      exact ih (i + 1) (TTn.next (w := tp (s i).1.2.2 τ (e i)) h e')
  obtain ⟨N, hN⟩ := tt τ 0
  exact key N 0 hN
/-- A call of a plain function, by its contracts on all tapes. -/
theorem goi_call (hP : PlainProg P F) {f : FuncId} {args : Array Value} {w : World} (hf : F f = true) {R : Value → World → Prop} (hB : ∀ v w τ d, R v w → R v (tp w τ d))
    (h : ∀ τ d, Calls P f args (tp w τ d) fun e w' => ∃ v, e = .returned v ∧ R v w') {Stop : Goroutine → World → Prop} {c : Frame} {cs : List Frame}
    (hk : ∀ v w', R v w' → w'.tape = w.tape → GoI P Stop (G (c.finish v) cs) w') : GoI P Stop (G (Frame.enter P f args .normal) (c :: cs)) w := by
  let Q : Frame → World → Prop := fun fr w' => ∃ v fn, fr.defers = [] ∧ fr.kind = .normal ∧ P.funcs[fr.fn]? = some fn ∧ (results fn fr.tmps).run P w' = .ok v w' ∧ R v w'
  have hQ : Blind Q := fun fr w' τ d ⟨v, fn, h1, h2, h3, h4, h5⟩ => by
    obtain ⟨_, r, h6, h7⟩ := run_follow _ (cm_results (P := P) fn fr.tmps) w' v w' h4
    have hr : r = 0 := by omega
    subst hr
    exact ⟨v, fn, h1, h2, h3, h7 τ d (fun j hj => by omega), hB v w' τ d h5⟩
  obtain ⟨fn0, c0, hfn0, _, hbody, hcode⟩ := hP.body f hf
  have ok : OkF P F (Frame.enter P f args .normal) [] := ⟨.inl ⟨f, _, _, enter_at args hfn0 hbody, rfl, by rw [hfn0]; rfl, by simpa [okItem] using hcode⟩, by simp⟩
  have hg := goi_of_tt (Q := Q) (w := w) (cs := c :: cs) hP hQ ok (fun τ d => by
    obtain ⟨e, w', fr, ⟨v, rfl, hR⟩, hc, hfn, hl⟩ := h τ d [dead]
    obtain ⟨N, hN⟩ := hc
    obtain ⟨hm, hd, hk', fn, hfn', hres⟩ := hl
    exact ⟨N, fr, w', hN, hm, v, fn, hd, hk', hfn', hres, hR⟩)
  refine GoI.bind hg ?_
  rintro g w' ⟨⟨fr, rfl, hm, v, fn, h1, h2, h3, h4, h5⟩, ht⟩
  refine GoI.step rfl fun d => ⟨_, w'.at d, seen P fr.fn ((results fn fr.tmps).events P (w'.at d) #[]), ?_, (hk v w' h5 ht).at d⟩
  obtain ⟨_, r, h6, h7⟩ := run_follow _ (cm_results (P := P) fn fr.tmps) w' v w' h4
  have hr : r = 0 := by omega
  subst hr
  have h8 : (results fn fr.tmps).run P (w'.at d) = .ok v (w'.at d) := h7 w'.tape d (fun j hj => by omega)
  simp [stepG, G, unwind, hm, h1, h2, h3, h8, doReturn, GStep.after]
end
end Go.Proofs.Ytjkfnjjkjhggfaa
