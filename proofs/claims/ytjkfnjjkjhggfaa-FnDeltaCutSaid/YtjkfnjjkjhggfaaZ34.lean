/- Plain functions: a check of their bodies; a goroutine all of whose frames are of such functions takes its own steps, lists no word of the library's, and stays so. One step of a goroutine whose frames are of plain functions. From a contract for a call that is alone to a walk: what a plain function does alone it does by its own steps, listing no word of the library's. -/
import Derived.Test.YtjkfnjjkjhggfaaZ33
import Derived.Conc.Listed
import Derived.Conc.Own3
import Derived.Conc.CompanyDraw
import Derived.Conc.LoneCalls
set_option linter.unusedSimpArgs false
set_option linter.unusedVariables false
namespace Go.Proofs.Ytjkfnjjkjhggfaa
open Go.Conc

def okOp (F : FuncId → Bool) (o : Oper) : Bool :=
  match o.op with
  | .move _ | .assign _ | .pick _ _ _ | .alloc _ | .box _ _ | .build _ _ | .buildSlice _ _ _ | .load _ _ | .store _ _ _ | .nilCheck _ | .binOp _ _ _ _ _ | .unOp _ _ _ | .convert _ _ _ | .slice _ _ _ _ _ | .fieldAddr _ _ _ | .indexAddr _ _ _ | .extract _ _ => true
  | .call { callee := .builtin .len, .. } | .call { callee := .builtin .append, .. } => true
  | .call { callee := .value (.func f), .. } => F f
  | _ => false
def okCode (F : FuncId → Bool) : Code → Bool
  | .skip | .label _ | .ret | .exit _ => true
  | .region _ ops _ => ops.all (okOp F)
  | .seq a b | .cond _ a b => okCode F a && okCode F b
  | .block _ c | .loop c => okCode F c
  | _ => false
def okItem (F : FuncId → Bool) : Item → Bool
  | .code c | .inLoop c => okCode F c
  | .inBlock _ => true
  | .inRegion ops _ => ops.all (okOp F)
  | _ => false
/-- What is asked of the program and of the set F of its functions. -/
structure PlainProg (P : Program) (F : FuncId → Bool) : Prop where
  body : ∀ f, F f = true → ∃ fn c, P.funcs[f]? = some fn ∧ (fn.name == "runtime.NumGoroutine") = false ∧ fn.body = some c ∧ okCode F c = true
  inits : ∀ f, F f = true → P.inits.idxOf? f = none
  early : ∀ g, P.stepOf g = none
  ahead : P.follows .staticDataAhead = true
def NextOk (F : FuncId → Bool) : Next → Prop
  | .value _ | .skip => True
  | .enter f _ => F f = true
  | _ => False
def EvN (e : Event) : Prop := ∀ m, e.loc = .mark m → Neutral m
def ResOk {α : Type} (Q : α → Prop) : Result α → Prop
  | .ok a _ => Q a
  | .halt h _ => HaltOk h ∨ ∃ g, h = .unsupported (.initOrder g)
section
variable {P : Program} {F : FuncId → Bool}
theorem halt_noCell (w : World) (a : Addr) (s : String) : HaltOk (w.noCell a s) ∨ ∃ g, w.noCell a s = .unsupported (.initOrder g) := by
  unfold World.noCell
  split
  · exact .inr ⟨_, rfl⟩
  · exact .inl (fun g h => by cases h)
  · exact .inl trivial
theorem halt_farLoad {w : World} {a : Addr} {b : Bool} {h : Halt} (e : w.farLoad P a b = .error h) : HaltOk h ∨ ∃ g, h = .unsupported (.initOrder g) := by
  unfold World.farLoad at e
  split at e
  · split at e
    · cases e
    · cases e; exact .inl (fun g h => by cases h)
  · cases e; exact halt_noCell ..
theorem halt_farStore {w : World} {a : Addr} {v : Value} {b : Bool} {h : Halt} (e : w.farStore P a v b = .error h) : HaltOk h ∨ ∃ g, h = .unsupported (.initOrder g) := by
  unfold World.farStore at e
  split at e
  · split at e
    · cases e
    · cases e; exact .inl (fun g h => by cases h)
  · cases e; exact halt_noCell ..
theorem evN_old {e : Event} {es fs : Array Event} (hf : ∀ x ∈ fs, EvN x) (h : e ∈ es ++ fs) : e ∈ es ∨ EvN e := (Array.mem_append.1 h).imp id (hf e)
theorem evN_cells (l : List Addr) (wr s : Bool) : ∀ x ∈ l.toArray.map (fun a => (⟨.cell a, wr, s⟩ : Event)), EvN x := by
  intro x hx
  obtain ⟨a, _, rfl⟩ := Array.mem_map.1 hx
  intro m h; cases h
theorem evN_push {e f : Event} {es : Array Event} (hf : EvN f) (h : e ∈ es.push f) : e ∈ es ∨ EvN e := by
  rcases Array.mem_push.1 h with h | rfl
  · exact .inl h
  · exact .inr hf
theorem calm_runT {α : Type} {Q : α → Prop} (s : Sem α) : Calm P Q s → ∀ (w : World) (es : Array Event), ResOk Q (s.runT P w es).1 ∧ ∀ e ∈ (s.runT P w es).2, e ∈ es ∨ EvN e := by
  have go : ∀ {r : Result α × Array Event} {es fs : Array Event}, (∀ e ∈ fs, e ∈ es ∨ EvN e) → (ResOk Q r.1 ∧ ∀ e ∈ r.2, e ∈ fs ∨ EvN e) → ResOk Q r.1 ∧ ∀ e ∈ r.2, e ∈ es ∨ EvN e :=
    fun hf h => ⟨h.1, fun e he => (h.2 e he).elim (hf e) .inr⟩
  induction s with
  | pure a => exact fun h w es => ⟨h, fun e he => .inl he⟩
  | load m a k ih =>
    intro h w es
    simp only [Sem.runT]
    split
    · exact go (fun e he => evN_push (by intro m h; cases h) he) (ih _ (h _) _ _)
    · split
      · exact go (fun e he => evN_old (evN_cells _ _ _) he) (ih _ (h _) _ _)
      · exact ⟨halt_farLoad ‹_›, fun e he => .inl he⟩
  | store m a v k ih =>
    intro h w es
    cases v <;> simp only [Sem.runT]
    case agg => exact ⟨.inl trivial, fun e he => .inl he⟩
    case tuple => exact ⟨.inl trivial, fun e he => .inl he⟩
    all_goals
      split
      · split
        · exact ⟨.inl (fun g h => by cases h), fun e he => .inl he⟩
        · exact go (fun e he => evN_push (by intro m h; cases h) he) (ih h _ _)
      · split
        · exact go (fun e he => evN_old (evN_cells _ _ _) he) (ih h _ _)
        · exact ⟨halt_farStore ‹_›, fun e he => .inl he⟩
  | new o k ih => exact fun h w es => ih _ (h _) _ _
  | shape r k ih => exact fun h w es => ih _ (h _) _ _
  | freeze a n k ih => exact fun h w es => ih h _ _
  | frozen a k ih => exact fun h w es => ih _ (h _) _ _
  | getObj r k ih =>
    intro h w es
    simp only [Sem.runT]
    split
    · exact ⟨.inl trivial, fun e he => .inl he⟩
    · exact go (fun e he => evN_push (by intro m h; cases h) he) (ih _ (h _) _ _)
    · exact ⟨.inl trivial, fun e he => .inl he⟩
  | setObj r o k ih =>
    intro h w es
    simp only [Sem.runT]
    split
    · exact ⟨.inl trivial, fun e he => .inl he⟩
    · exact go (fun e he => evN_push (by intro m h; cases h) he) (ih h _ _)
    · exact ⟨.inl trivial, fun e he => .inl he⟩
  | choose q k ih =>
    intro h w es
    simp only [Sem.runT]
    split
    · exact ih _ (h _) _ _
    · exact ih _ (h _) _ _
  | sys c k ih => exact fun h => h.elim
  | program k ih => exact fun h w es => ih _ h _ _
  | mark m k ih => exact fun h w es => go (fun e he => evN_push (by intro m' e; cases e; exact h.1) he) (ih h.2 _ _)
  | halt h => exact fun hh w es => ⟨.inl hh, fun e he => .inl he⟩
theorem calm_v {s : Sem Value} (h : Cm P s) : Calm P (NextOk F) (do pure (Next.value (← s))) := cm_bind h fun _ => trivial
theorem calm_u {s : Sem Unit} (h : Cm P s) : Calm P (NextOk F) (do s; pure Next.skip) := cm_bind h fun _ => trivial
theorem calm_callFunc (hP : PlainProg P F) {f : FuncId} (hf : F f = true) (args : Array Value) : Calm P (NextOk F) (callFunc f args) := by
  obtain ⟨fn, c, h1, h2, h3, _⟩ := hP.body f hf
  unfold callFunc
  refine calm_bind (Q := fun p => p = P) (x := program) rfl ?_
  rintro _ rfl
  simp only [h1, h2, h3, Option.isNone, Bool.false_eq_true, if_false]
  exact hf
theorem calm_op (hP : PlainProg P F) {o : Oper} (ho : okOp F o = true) (a : Act) : Calm P (NextOk F) (execOp a.eval o) := by
  unfold okOp at ho
  unfold execOp
  split at ho <;> (try (cases ho)) <;> rename_i e <;> simp only [e]
  all_goals first
    | exact trivial
    | exact cm_bind (cm_asBool _) fun _ => trivial
    | exact calm_v (cm_alloc _ _ _)
    | exact calm_v (cm_box _ _)
    | exact calm_v (cm_build _ _)
    | exact calm_v (cm_buildSlice _ _ _)
    | exact calm_v (cm_loadAt _ _)
    | exact calm_u (cm_storeAt _ _ _)
    | exact calm_v (cm_bind (cm_eqGuard _ _ _ _ _ _) fun _ => cm_binOp _ _ _ _)
    | exact calm_v (cm_unary _ _)
    | exact calm_v (cm_convert _ _ _)
    | exact calm_v (cm_sliceAt _ _ _ _ _)
    | exact calm_v (cm_fieldAt _ _ _)
    | exact calm_v (cm_indexAt _ _ _)
    | exact calm_v (cm_extract _ _)
    | exact calm_v (cm_len _ _ _)
    | exact calm_v (cm_append _ _ _)
    | exact calm_callFunc hP ho _
    | skip
  split
  · exact calm_runtimePanic _
  · exact calm_runtimePanic _
  · exact calm_runtimePanic _
  · split
    · exact calm_runtimePanic _
    · refine cm_bind cm_program fun _ => cm_bind (cm_nilAhead _ _ _ _) fun _ => ?_
      refine calm_ite (fun _ => ?_) (fun _ => ?_)
      · exact cm_bind (calm_unsupported (by intro g h; cases h)) fun _ => trivial
      · exact trivial
    · exact trivial
  · exact trivial
end
end Go.Proofs.Ytjkfnjjkjhggfaa
set_option linter.unusedSimpArgs false
set_option linter.unusedVariables false
namespace Go.Proofs.Ytjkfnjjkjhggfaa
open Go.Conc

def RunF (P : Program) (F : FuncId → Bool) (fr : Frame) : Prop := ∃ (f : FuncId) (a : Act) (k : List Item), fr = (base f).at a k ∧ a.defers = [] ∧ (P.funcs[f]?).isSome = true ∧ k.all (okItem F) = true
def RetF (P : Program) (F : FuncId → Bool) (fr : Frame) : Prop := ∃ (f : FuncId) (a : Act) (k : List Item), fr = { (base f).at a k with mode := .returning } ∧ a.defers = [] ∧ (P.funcs[f]?).isSome = true
def BadF (P : Program) (fr : Frame) : Prop := (∃ ch, fr.mode = .panicking ch) ∧ fr.defers = [] ∧ (P.funcs[fr.fn]?).isSome = true
def StepRun (P : Program) (F : FuncId → Bool) (fr : Frame) (w : World) : Prop :=
  (∃ fr' w' es, (∀ cs, stepG P true (G fr cs) w = .go (G fr' cs) w' es) ∧ (RunF P F fr' ∨ RetF P F fr') ∧ ∀ e ∈ es, EvN e) ∨
  (∃ fr' w' es, (∀ cs, stepG P true (G fr cs) w = .go (G fr' (fr :: cs)) w' es) ∧ RunF P F fr' ∧ ∀ e ∈ es, EvN e) ∨
  (∃ fr' w' es, (∀ cs, stepG P true (G fr cs) w = .go (G fr' cs) w' es) ∧ BadF P fr') ∨
  (∀ cs, ∃ o w' es, stepG P true (G fr cs) w = .ended o w' es)
section
variable {P : Program} {F : FuncId → Bool}
theorem exitTo_ok {id : Nat} : ∀ {k k' : List Item}, exitTo id k = some k' → k.all (okItem F) = true → k'.all (okItem F) = true := by
  intro k
  induction k with
  | nil => intro k' h; cases h
  | cons x k ih =>
    intro k' h hk
    simp only [List.all_cons, Bool.and_eq_true] at hk
    unfold exitTo at h
    split at h
    · split at h
      · cases h; rename_i e; cases e; exact hk.2
      · rename_i e _; cases e; exact ih h hk.2
    · rename_i e; cases e; exact ih h hk.2
    · cases ‹_ :: _ = []›
theorem go_run {f : FuncId} {a : Act} {k : List Item} {fr : Frame} {w : World} (hd : a.defers = []) (hf : (P.funcs[f]?).isSome = true) (hk : k.all (okItem F) = true) (h : ∀ cs, stepG P true (G fr cs) w = .go (G ((base f).at a k) cs) w #[]) : StepRun P F fr w :=
  .inl ⟨_, _, _, h, .inl ⟨f, a, k, rfl, hd, hf, hk⟩, by simp⟩
theorem evs_seen {f : FuncId} {es : Array Event} (h : ∀ e ∈ es, e ∈ (#[] : Array Event) ∨ EvN e) : ∀ e ∈ seen P f es, EvN e := fun e he => (h e (mem_seen he)).resolve_left (by simp)
theorem finish_run {f : FuncId} {a : Act} {k : List Item} {ops : Array Oper} {i : Nat} {rest : List Nat} (hd : a.defers = []) (hf : (P.funcs[f]?).isSome = true) (hk : (Item.inRegion ops (i :: rest) :: k).all (okItem F) = true) (v : Value) : RunF P F (((base f).at a (.inRegion ops (i :: rest) :: k)).finish v) := by
  rw [Frame.finish_at]
  refine ⟨f, _, _, rfl, ?_, hf, ?_⟩
  · cases (ops[i]?).bind (·.dst) <;> exact hd
  · simpa [okItem] using hk
theorem step_op (hP : PlainProg P F) {f : FuncId} {a : Act} {k : List Item} {ops : Array Oper} {i : Nat} {rest : List Nat} {w : World} (hd : a.defers = []) (hf : (P.funcs[f]?).isSome = true) (hk : (Item.inRegion ops (i :: rest) :: k).all (okItem F) = true) :
    StepRun P F ((base f).at a (.inRegion ops (i :: rest) :: k)) w := by
  cases ho : ops[i]? with
  | none =>
    refine .inl ⟨_, w, #[], fun cs => ?_, .inl (finish_run hd hf hk undef), by simp⟩
    simp [G, stepG, stepG.exec, Frame.at, ho]
  | some o =>
    cases hw : Region.wanted o (yielded ops a.tmps) with
    | false =>
      refine .inl ⟨_, w, #[], fun cs => ?_, .inl (finish_run hd hf hk undef), by simp⟩
      simp [G, stepG, stepG.exec, Frame.at, ho, hw]
    | true =>
      have hop : okOp F o = true := by
        simp only [List.all_cons, Bool.and_eq_true, okItem] at hk
        exact Array.all_eq_true_iff_forall_mem.1 hk.1 o (Array.mem_of_getElem? ho)
      obtain ⟨h1, h2⟩ := calm_runT _ (calm_op hP hop a) w #[]
      have hstep : ∀ cs, stepG P true (G ((base f).at a (.inRegion ops (i :: rest) :: k)) cs) w = stepG.apply P true ((base f).at a (.inRegion ops (i :: rest) :: k)) cs none (execOp a.eval o) w := fun cs => stepG_oper ho hw
      generalize hr : (execOp a.eval o).runT P w #[] = r at h1 h2
      obtain ⟨r, es⟩ := r
      have hr1 : (execOp a.eval o).run P w = r ∧ (execOp a.eval o).events P w #[] = es := by simpa using hr
      obtain ⟨hr1, hr2⟩ := hr1
      obtain ⟨fn, hfn⟩ := Option.isSome_iff_exists.1 hf
      cases r with
      | ok n w' =>
       cases n with
       | value v =>
        refine .inl ⟨_, w', seen P f es, fun cs => ?_, .inl (finish_run hd hf hk v), evs_seen h2⟩
        rw [hstep]
        simp [stepG.apply, hr1, hr2, GStep.after, G, Frame.at, base]
       | skip =>
        refine .inl ⟨_, w', seen P f es, fun cs => ?_, .inl (finish_run hd hf hk undef), evs_seen h2⟩
        rw [hstep]
        simp [stepG.apply, hr1, hr2, GStep.after, G, Frame.at, base]
       | enter f' args =>
        have hf' : F f' = true := h1
        obtain ⟨fn', c', hfn', _, hbody', hcode'⟩ := hP.body f' hf'
        refine .inr (.inl ⟨_, w', seen P f es, fun cs => ?_, ⟨f', _, _, enter_at args hfn' hbody', rfl, by rw [hfn']; rfl, by simpa [okItem] using hcode'⟩, evs_seen h2⟩)
        rw [hstep]
        simp [stepG.apply, hr1, hr2, GStep.after, G, Frame.at, base]
       | _ => exact h1.elim
      | halt h w' =>
       have h1 : HaltOk h ∨ ∃ g, h = .unsupported (.initOrder g) := h1
       cases h with
       | panic v =>
        refine .inr (.inr (.inl ⟨((base f).at a (.inRegion ops (i :: rest) :: k)).raise [{ v, recovered := false }], w', seen P f es, fun cs => ?_, ⟨_, rfl⟩, hd, ?_⟩))
        · rw [hstep]
          simp [stepG.apply, hr1, hr2, GStep.after, G, Frame.at, base]
        · show (P.funcs[f]?).isSome = true
          rw [hfn]; rfl
       | stuck s =>
        refine .inr (.inr (.inr fun cs => ?_))
        rw [hstep]
        simp [stepG.apply, hr1, hr2, GStep.after, G, Frame.at, base]
       | unsupported u =>
        refine .inr (.inr (.inr fun cs => ?_))
        rw [hstep]
        by_cases hu : ∃ g, u = .initOrder g
        · obtain ⟨g, rfl⟩ := hu
          simp [stepG.apply, hr1, hr2, GStep.after, G, Frame.at, base, early, hP.early, hP.ahead]
        · cases u <;> first | exact absurd ⟨_, rfl⟩ hu | simp [stepG.apply, hr1, hr2, GStep.after, G, Frame.at, base]
       | _ => rcases h1 with h1 | ⟨g, h1⟩
              · exact h1.elim
              · cases h1
theorem step_run (hP : PlainProg P F) {fr : Frame} (h : RunF P F fr) (w : World) : StepRun P F fr w := by
  obtain ⟨f, a, k, rfl, hd, hf, hk⟩ := h
  have hh : ∀ {x : Item} {l : List Item}, (x :: l).all (okItem F) = true → okItem F x = true ∧ l.all (okItem F) = true := fun h => by simpa using h
  match k, hk with
  | [], _ =>
    exact .inl ⟨_, _, _, fun cs => stepG_end, .inr ⟨f, a, [], rfl, hd, hf⟩, by simp⟩
  | .inBlock id :: k, hk => exact go_run hd hf (hh hk).2 fun cs => stepG_inBlock
  | .inLoop c :: k, hk => exact go_run hd hf (by simpa [okItem] using hk) fun cs => stepG_inLoop
  | .inRegion ops [] :: k, hk => exact go_run hd hf (hh hk).2 fun cs => stepG_region_end
  | .inRegion ops (i :: rest) :: k, hk => exact step_op hP hd hf hk
  | .code c :: k, hk =>
    match c, hk with
    | .skip, hk => exact go_run hd hf (hh hk).2 fun cs => stepG_skip
    | .label l, hk => exact go_run hd hf (hh hk).2 fun cs => stepG_label
    | .ret, hk => exact .inl ⟨_, _, _, fun cs => stepG_ret', .inr ⟨f, a, _, rfl, hd, hf⟩, by simp⟩
    | .seq x y, hk => exact go_run hd hf (by simpa [okItem, okCode, and_assoc] using hk) fun cs => stepG_seq
    | .block id c, hk => exact go_run hd hf (by simpa [okItem, okCode] using hk) fun cs => stepG_block
    | .loop c, hk => exact go_run hd hf (by simpa [okItem, okCode] using hk) fun cs => stepG_loop
    | .region id ops false, hk => exact go_run hd hf (by simpa [okItem, okCode] using hk) fun cs => stepG_region
    | .region id ops true, hk =>
      exact .inl ⟨_, _, _, fun cs => stepG_region_draw, .inl ⟨f, a, _, rfl, hd, hf, by simpa [okItem, okCode] using hk⟩, by simp⟩
    | .cond c x y, hk =>
      have hk' := hh hk
      simp only [okItem, okCode, Bool.and_eq_true] at hk'
      cases hc : a.eval c with
      | bool t =>
        refine go_run hd hf ?_ fun cs => stepG_cond hc
        cases t <;> simp [okItem, hk'.1.1, hk'.1.2, hk'.2]
      | _ =>
        refine .inr (.inr (.inr fun cs => ?_))
        have h' : ((base f).at a (.code (.cond c x y) :: k)).eval c = a.eval c := Frame.eval_at ..
        simp only [Frame.at] at h'
        simp [G, stepG, stepG.exec, Frame.at, h', hc]
    | .exit id, hk =>
      cases he : exitTo id k with
      | some k' => exact go_run hd hf (exitTo_ok he (hh hk).2) fun cs => stepG_exit he
      | none =>
        refine .inr (.inr (.inr fun cs => ?_))
        simp [G, stepG, stepG.exec, Frame.at, he]
end
end Go.Proofs.Ytjkfnjjkjhggfaa
set_option linter.unusedSimpArgs false
set_option linter.unusedVariables false
namespace Go.Proofs.Ytjkfnjjkjhggfaa
open Go.Conc

/-- A frame that lets nothing go on above it: at a return and at a panic the run ends. -/
def dead : Frame := { fn := 0, tmps := #[], todo := [.code (.refuse "")], defers := [{ target := .nil, args := #[] }], mode := .run, kind := .normal }
section
variable {P : Program} {F : FuncId → Bool}
theorem step_solo_ended {a : Goroutine} {w w' : World} {o : Outcome} {es : Array Event} (hs : a.status = .running) (h : stepG P true a w = .ended o w' es) : step P (solo a w) = .ended o w' := by
  rw [step, stepT_solo hs]
  simp [runT, solo, Array.swapAt!, Array.swapAt, h, GStep.es]
theorem solo_inj {fr fr' : Frame} {cs cs' : List Frame} {w w' : World} (h : (Stepped.next (solo (G fr cs) w)) = .next (solo (G fr' cs') w')) : fr = fr' ∧ cs = cs' ∧ w = w' := by
  simp [solo, G] at h
  exact ⟨h.2.1, h.2.2, h.1⟩
theorem runN_go {N : Nat} {a a' : Goroutine} {w w' : World} {es : Array Event} {m : Machine} (hs : a.status = .running) (h : stepG P true a w = .go a' w' es) (hr : runN P (N + 1) (solo a w) = .next m) : runN P N (solo a' w') = .next m := by
  simp only [runN, step_solo_go hs h] at hr
  exact hr
theorem runN_ended {N : Nat} {a : Goroutine} {w w' : World} {es : Array Event} {o : Outcome} {m : Machine} (hs : a.status = .running) (h : stepG P true a w = .ended o w' es) (hr : runN P (N + 1) (solo a w) = .next m) : False := by
  simp only [runN, step_solo_ended hs h] at hr
  cases hr
theorem dead_run (w : World) : ∃ o w' es, stepG P true (G dead []) w = .ended o w' es := ⟨_, _, _, by simp only [G, stepG, stepG.exec, dead]; rfl⟩
theorem dead_panic (ch : List PanicEntry) (w : World) : ∃ o w' es, stepG P true (G (dead.raise ch) []) w = .ended o w' es := ⟨_, _, _, by simp only [G, stepG, Frame.raise, dead, unwind, callDeferred]; rfl⟩
/-- What panics comes to no return. -/
theorem bad_never {frT : Frame} {wT : World} (hT : frT.mode = .returning) : ∀ (N : Nat) (fr : Frame) (up : List Frame) (w : World), BadF P fr → (∀ u ∈ up, u.defers = [] ∧ (P.funcs[u.fn]?).isSome = true) →
    runN P N (solo (G fr (up ++ [dead])) w) = .next (solo (G frT [dead]) wT) → False := by
  intro N
  induction N with
  | zero =>
    intro fr up w hb _ h
    obtain ⟨rfl, _⟩ := solo_inj h
    obtain ⟨⟨ch, hm⟩, _⟩ := hb
    rw [hT] at hm; cases hm
  | succ N ih =>
    intro fr up w ⟨⟨ch, hm⟩, hd, hf⟩ hu h
    have hc : fr.catches P = false := by
      unfold Frame.catches
      cases hx : P.funcs[fr.fn]? with
      | none => rw [hx] at hf; cases hf
      | some fn => rfl
    cases up with
    | nil =>
      have hstep : stepG P true (G fr ([] ++ [dead])) w = .go (G (dead.raise ch) []) w #[] := by
        simp [stepG, G, hm, unwind, hd, hc]
      have h' := runN_go rfl hstep h
      cases N with
      | zero => have := (solo_inj h').2.1; cases this
      | succ N =>
        obtain ⟨o, w', es, he⟩ := dead_panic (P := P) ch w
        exact runN_ended rfl he h'
    | cons u up =>
      have hstep : stepG P true (G fr (u :: up ++ [dead])) w = .go (G (u.raise ch) (up ++ [dead])) w #[] := by
        simp [stepG, G, hm, unwind, hd, hc]
      have h' := runN_go rfl hstep h
      have hu0 := hu u (by simp)
      refine ih _ up w ⟨?_, ?_, ?_⟩ (fun x hx => hu x (by simp [hx])) h'
      · unfold Frame.raise; split <;> exact ⟨_, rfl⟩
      · unfold Frame.raise; split <;> exact hu0.1
      · unfold Frame.raise; split <;> exact hu0.2
theorem run_low (hP : PlainProg P F) {u : Frame} (h : RunF P F u) : u.defers = [] ∧ (P.funcs[u.fn]?).isSome = true := by
  obtain ⟨f, a, k, rfl, hd, hf, _⟩ := h
  obtain ⟨fn, hfn⟩ := Option.isSome_iff_exists.1 hf
  refine ⟨hd, ?_⟩
  show (P.funcs[f]?).isSome = true
  rw [hfn]; rfl
theorem finish_ok {u : Frame} (h : RunF P F u) (v : Value) : RunF P F (u.finish v) := by
  obtain ⟨f, a, k, rfl, hd, hf, hk⟩ := h
  match k, hk with
  | [], hk => exact ⟨f, a, [], rfl, hd, hf, hk⟩
  | .inRegion ops (i :: rest) :: k, hk => exact finish_run hd hf hk v
  | .inRegion ops [] :: k, hk => exact ⟨f, a, _, rfl, hd, hf, hk⟩
  | .code c :: k, hk => exact ⟨f, a, _, rfl, hd, hf, hk⟩
  | .inBlock c :: k, hk => exact ⟨f, a, _, rfl, hd, hf, hk⟩
  | .inLoop c :: k, hk => exact ⟨f, a, _, rfl, hd, hf, hk⟩
theorem cm_results (fn : Func) (tmps : Array Value) : Cm P (results fn tmps) := by
  unfold results
  refine cm_bind (cm_array _ (fun r => ?_) _) fun _ => trivial
  cases r with
  | tmp t => exact trivial
  | cell a t => exact cm_bind (cm_asAddr _) fun _ => cm_loadVar _ _
/-- The step of a return: it goes to the caller, or it ends the run. -/
theorem step_ret {fr : Frame} {fn : Func} (hm : fr.mode = .returning) (hd : fr.defers = []) (hk : fr.kind = .normal) (hf : P.funcs[fr.fn]? = some fn) (w : World) :
    (∃ v w' es, (∀ u cs, stepG P true (G fr (u :: cs)) w = .go (G (u.finish v) cs) w' es) ∧ (results fn fr.tmps).run P w = .ok v w' ∧ ∀ e ∈ es, EvN e) ∨ ∀ u cs, ∃ o w' es, stepG P true (G fr (u :: cs)) w = .ended o w' es := by
  obtain ⟨h1, h2⟩ := calm_runT _ (cm_results (P := P) fn fr.tmps) w #[]
  generalize hr : (results fn fr.tmps).runT P w #[] = r at h1 h2
  obtain ⟨r, es⟩ := r
  have hr1 : (results fn fr.tmps).run P w = r ∧ (results fn fr.tmps).events P w #[] = es := by simpa using hr
  obtain ⟨hr1, hr2⟩ := hr1
  cases r with
  | ok v w' =>
    refine .inl ⟨v, w', seen P fr.fn es, fun u cs => ?_, hr1, evs_seen h2⟩
    simp [stepG, G, unwind, hm, hd, hk, hf, hr1, hr2, doReturn, GStep.after]
  | halt h w' =>
    refine .inr fun u cs => ?_
    cases h <;> simp [stepG, G, unwind, hm, hd, hk, hf, hr1, hr2, doReturn, GStep.after]
theorem steps_goes (hP : PlainProg P F) {Stop : Goroutine → World → Prop} {cs : List Frame} {frT : Frame} {wT : World} (hT : frT.mode = .returning) (hS : ∃ n, Goes P true Eq D0 Stop n (G frT cs) wT) :
    ∀ (N : Nat) (fr : Frame) (up : List Frame) (w : World), (RunF P F fr ∨ RetF P F fr) → (∀ u ∈ up, RunF P F u) → runN P N (solo (G fr (up ++ [dead])) w) = .next (solo (G frT [dead]) wT) → ∃ n, Goes P true Eq D0 Stop n (G fr (up ++ cs)) w := by
  have go : ∀ {fr fr' : Frame} {cs cs' : List Frame} {w w' : World} {es : Array Event}, stepG P true (G fr cs) w = .go (G fr' cs') w' es → (∀ e ∈ es, EvN e) → (∃ n, Goes P true Eq D0 Stop n (G fr' cs') w') → ∃ n, Goes P true Eq D0 Stop n (G fr cs) w := by
    rintro fr fr' cs cs' w w' es h he ⟨n, hn⟩
    refine ⟨n + 1, Goes.step rfl ?_⟩
    rintro _ rfl
    rw [h]
    exact ⟨he, hn⟩
  intro N
  induction N with
  | zero =>
    intro fr up w _ _ h
    obtain ⟨rfl, hu, rfl⟩ := solo_inj h
    cases up with
    | nil => exact hS
    | cons u up => simp at hu
  | succ N ih =>
    intro fr up w hfr hup h
    rcases hfr with hfr | hfr
    · rcases step_run hP hfr w with ⟨fr', w', es, hst, hok, he⟩ | ⟨fr', w', es, hst, hok, he⟩ | ⟨fr', w', es, hst, hbad⟩ | hend
      · exact go (hst _) he (ih _ up _ hok hup (runN_go rfl (hst _) h))
      · exact go (hst _) he (ih _ (fr :: up) _ (.inl hok) (by intro u hu; rcases List.mem_cons.1 hu with rfl | hu; exact hfr; exact hup u hu) (runN_go rfl (hst _) h))
      · exact (bad_never hT N fr' up w' hbad (fun u hu => run_low hP (hup u hu)) (runN_go rfl (hst _) h)).elim
      · obtain ⟨o, w', es, he⟩ := hend (up ++ [dead])
        exact (runN_ended rfl he h).elim
    · obtain ⟨f, a, k, rfl, hd, hf⟩ := hfr
      obtain ⟨fn, hfn⟩ := Option.isSome_iff_exists.1 hf
      have hst := step_ret (P := P) (fr := { (base f).at a k with mode := .returning }) (fn := fn) rfl hd rfl hfn w
      cases up with
      | nil =>
        rcases hst with ⟨v, w', es, hst, _, _⟩ | hend
        · have h' := runN_go rfl (hst dead []) h
          cases N with
          | zero => have := (solo_inj h').2.1; cases this
          | succ N =>
            obtain ⟨o, w', es, he⟩ := dead_run (P := P) w'
            exact (runN_ended rfl he h').elim
        · obtain ⟨o, w', es, he⟩ := hend dead []
          exact (runN_ended rfl he h).elim
      | cons u up =>
        rcases hst with ⟨v, w', es, hst, _, he⟩ | hend
        · exact go (hst u (up ++ cs)) he (ih _ up _ (.inl (finish_ok (hup u (by simp)) v)) (fun x hx => hup x (by simp [hx])) (runN_go rfl (hst u (up ++ [dead])) h))
        · obtain ⟨o, w', es, he⟩ := hend u (up ++ [dead])
          exact (runN_ended rfl he h).elim
/-- THE TRANSFER: a contract of a plain function, alone, is a walk from its entry to the step behind its return. -/
theorem calls_goes (hP : PlainProg P F) {Stop : Goroutine → World → Prop} {f : FuncId} {args : Array Value} {w : World} {R : Ending → World → Prop} (hf : F f = true) (h : Calls P f args w R)
    (hR : ∀ e w', R e w' → ∃ v, e = .returned v) {c : Frame} {cs : List Frame} (hS : ∀ v w', R (.returned v) w' → ∃ n, Goes P true Eq D0 Stop n (G (c.finish v) cs) w') :
    ∃ n, Goes P true Eq D0 Stop n (G (Frame.enter P f args .normal) (c :: cs)) w := by
  obtain ⟨e, w', fr, hRe, hc, hfn, hl⟩ := h [dead]
  obtain ⟨v, rfl⟩ := hR e w' hRe
  obtain ⟨N, hN⟩ := hc
  obtain ⟨hm, hd, hk, fn, hfn', hres⟩ := hl
  obtain ⟨fn0, c0, hfn0, _, hbody, hcode⟩ := hP.body f hf
  refine steps_goes hP (cs := c :: cs) hm ?_ N _ [] w (.inl ⟨f, _, _, enter_at args hfn0 hbody, rfl, by rw [hfn0]; rfl, by simpa [okItem] using hcode⟩) (by simp) hN
  obtain ⟨n, hn⟩ := hS v w' hRe
  rcases step_ret hm hd hk hfn' w' with ⟨v', w'', es, hst, hr, he⟩ | hend
  · rw [hres] at hr
    cases hr
    refine ⟨n + 1, Goes.step rfl ?_⟩
    rintro _ rfl
    rw [hst]
    exact ⟨he, hn⟩
  · obtain ⟨o, w'', es, he⟩ := hend c cs
    exfalso
    simp [stepG, G, unwind, hm, hd, hk, hfn', hres, doReturn, GStep.after] at he
end
end Go.Proofs.Ytjkfnjjkjhggfaa
