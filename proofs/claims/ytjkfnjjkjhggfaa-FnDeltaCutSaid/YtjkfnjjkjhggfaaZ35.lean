/- The plain functions of the program. Alone, ahead of the go statement: steps by what an operation is. impl.DeltaCut, called by one who is alone: from its entry, over the go statement, to its return. -/
import Derived.Test.YtjkfnjjkjhggfaaZ34
import Derived.Test.YtjkfnjjkjhggfaaChecked
import Derived.RowKit
import Derived.Test.YtjkfnjjkjhggfaaZ31
set_option linter.unusedSimpArgs false
set_option linter.unusedVariables false
namespace Go.Proofs.Ytjkfnjjkjhggfaa
open Go.Conc

theorem stepOf_none {P : Program} (h : P.funcs.all (fun f => (f.body.map readies).all (·.isEmpty)) = true) (g : Nat) : P.stepOf g = none := by
  unfold Program.stepOf
  rw [Array.findIdx?_eq_none_iff]
  intro f hf
  have h1 := Array.all_eq_true_iff_forall_mem.1 h f hf
  cases hb : f.body with
  | none => rfl
  | some c =>
    rw [hb] at h1
    simp at h1 ⊢
    rw [h1]; simp
def plainBody (F : FuncId → Bool) (fn : Func) : Bool := !(fn.name == "runtime.NumGoroutine") && (match fn.body with | some c => okCode F c | none => false)
theorem plainProg_of {P : Program} (L : List FuncId) (h : L.all (fun f => (match P.funcs[f]? with | some fn => plainBody (L.contains ·) fn | none => false) && (P.inits.idxOf? f).isNone) = true)
    (he : P.funcs.all (fun f => (f.body.map readies).all (·.isEmpty)) = true) (ha : P.follows .staticDataAhead = true) : PlainProg P (L.contains ·) := by
  refine ⟨fun f hf => ?_, fun f hf => ?_, stepOf_none he, ha⟩
  all_goals
    have h1 := List.all_eq_true.1 h f (by simpa using hf)
    simp only [Bool.and_eq_true] at h1
  · have h2 := h1.1
    split at h2
    · rename_i fn hfn
      unfold plainBody at h2
      simp only [Bool.and_eq_true, Bool.not_eq_true'] at h2
      cases hb : fn.body with
      | none => rw [hb] at h2; simp at h2
      | some c => rw [hb] at h2; exact ⟨fn, c, hfn, h2.1, hb, h2.2⟩
    · cases h2
  · simpa using h1.2
/-- The functions that are reached ahead of impl.DeltaCut. -/
def plainL : List FuncId := [13, 14, 15, 17, 31, 22, 32, 33, 36, 40, 41, 42, 43, 44, 45, 46, 49, 50, 51, 52, 53, 54, 55, 56, 58, 59, 60, 61, 62]
set_option maxRecDepth 100000 in
theorem plainProg : PlainProg Try.prog (plainL.contains ·) := plainProg_of plainL (by kernel_rfl) (by kernel_rfl) (by kernel_rfl)
end Go.Proofs.Ytjkfnjjkjhggfaa
set_option linter.unusedSimpArgs false
set_option linter.unusedVariables false
namespace Go.Proofs.Ytjkfnjjkjhggfaa
open Go.Conc Go.RowKit

section
variable {P : Program} {Stop : Goroutine → World → Prop} {g g' : Goroutine} {w w' : World} {b : Frame} {a : Act} {k : List Item} {cs : List Frame} {ops : Array Oper} {i : Nat} {rest : List Nat} {op : Oper}
variable (P Stop) in
/-- Alone: it comes to the stop. -/
def Lo (g : Goroutine) (w : World) : Prop := ∃ n, Goes P true Eq D0 Stop n g w
theorem Lo.stop (h : Stop g w) : Lo P Stop g w := ⟨0, fun w1 e => e ▸ h⟩
theorem Lo.step {es : Array Event} (hs : g.status = .running) (h : stepG P true g w = .go g' w' es) (he : ∀ e ∈ es, EvN e) (hk : Lo P Stop g' w') : Lo P Stop g w := by
  obtain ⟨n, hn⟩ := hk
  refine ⟨n + 1, Goes.step hs ?_⟩
  rintro _ rfl
  rw [h]
  exact ⟨he, hn⟩
theorem Lo.ctl (hs : g.status = .running) (h : ∀ w, stepG P true g w = .go g' w #[]) (hk : Lo P Stop g' w) : Lo P Stop g w := Lo.step hs (h w) (by simp) hk
theorem Lo.oper {v : Value} (ho : ops[i]? = some op) (hw : Region.wanted op (yielded ops a.tmps) = true) (hk : b.kind ≠ .early) (hg : Gives P a op w v w') (he : ∀ e ∈ (execOp a.eval op).events P w #[], EvN e)
    (hs : Lo P Stop (G (b.at (a.put op.dst v) (.inRegion ops rest :: k)) cs) w') : Lo P Stop (G (b.at a (.inRegion ops (i :: rest) :: k)) cs) w := by
  rcases hg with hg | ⟨hg, rfl⟩
  · exact Lo.step rfl (stepG_value ho hw hk hg) (fun e hm => he e (mem_listed hm)) hs
  · exact Lo.step rfl (stepG_none ho hw hk hg) (fun e hm => he e (mem_listed hm)) hs
theorem Lo.pu {v : Value} (h : Pu P a op v) (ho : ops[i]? = some op) (hw : Region.wanted op (yielded ops a.tmps) = true) (hk : b.kind ≠ .early)
    (hs : Lo P Stop (G (b.at (a.put op.dst v) (.inRegion ops rest :: k)) cs) w) : Lo P Stop (G (b.at a (.inRegion ops (i :: rest) :: k)) cs) w :=
  Lo.oper ho hw hk (.inl (h w).1) (by rw [(h w).2]; simp) hs
theorem evN_of {nf c : Nat} {me : Bool} {o : Who} {sz : Nat} {e : Event} (h : EvO nf c me o sz e) : EvN e := fun m hm => by
  rcases h with ⟨m', h1, h2⟩ | ⟨k, h1, _⟩
  · rw [hm] at h1; injection h1 with h1; rw [h1]; exact h2
  · rw [hm] at h1; simp [locBlock] at h1
theorem evN_cell {e : Event} {ad : Addr} (h : e.loc = .cell ad) : EvN e := fun m hm => by rw [hm] at h; cases h
theorem Lo.load {x : Operand} {t : TypeId} {A : Addr} {vs : List Value} {v : Value} (ho : ops[i]? = some op) (hw : Region.wanted op (yielded ops a.tmps) = true) (hk : b.kind ≠ .early)
    (hop : op.op = .load t x) (ha : a.eval x = .pointer (some A)) (hl : LoadOf P t vs v) (hc : ∀ j u, vs[j]? = some u → w.cell? (A.add j) = some u)
    (hs : Lo P Stop (G (b.at (a.put op.dst v) (.inRegion ops rest :: k)) cs) w) : Lo P Stop (G (b.at a (.inRegion ops (i :: rest) :: k)) cs) w := by
  have := load_law (P := P) (a := a) (op := op) (nf := A.block + 2) (c := A.block + 1) (me := true) (o1 := fun _ => true) (w1 := w) (by omega) hop ha hl (fun j u hj => ⟨World.block_lt_of_cell? _ _ (hc j u hj), by rw [addBlock]; omega, .inr rfl, hc j u hj⟩)
  exact Lo.oper ho hw hk (.inl this.1) (fun e he => evN_of (this.2 e he)) hs
theorem Lo.new (ho : ops[i]? = some op) (hw : Region.wanted op (yielded ops a.tmps) = true) (hk : b.kind ≠ .early) (ob : Obj) (val : Nat → Value)
    (hr : ∀ w, (execOp a.eval op).run P w = .ok (.value (val w.heap.size)) (w.alloc ob)) (he : ∀ w, (execOp a.eval op).events P w #[] = #[])
    (hs : Lo P Stop (G (b.at (a.put op.dst (val w.heap.size)) (.inRegion ops rest :: k)) cs) (w.alloc ob)) : Lo P Stop (G (b.at a (.inRegion ops (i :: rest) :: k)) cs) w :=
  Lo.oper ho hw hk (.inl (hr w)) (by rw [he]; simp) hs
theorem Lo.store {x y : Operand} {t E : TypeId} {inf : TypeInfo} {g off : Nat} {cur : Array Value} {vs : List Value} (ho : ops[i]? = some op) (hw : Region.wanted op (yielded ops a.tmps) = true) (hk : b.kind ≠ .early)
    (hop : op.op = .store t x y) (ha : a.eval x = .pointer (some ⟨g, off, none⟩)) (hv : (a.eval y).cells.toList = vs) (hi : P.info? t = some inf) (hz : inf.size = vs.length) (h1 : ∀ v ∈ vs, v.oneCell' = true)
    (hg : w.heap[g]? = some (.cells cur E (0, 0))) (hfit : off + vs.length ≤ cur.size)
    (hs : Lo P Stop (G (b.at (a.put op.dst undef) (.inRegion ops rest :: k)) cs) (w.setRow g (cur.toList.take off ++ vs ++ cur.toList.drop (off + vs.length)).toArray)) : Lo P Stop (G (b.at a (.inRegion ops (i :: rest) :: k)) cs) w := by
  obtain ⟨h2, h3⟩ := store_law (P := P) (a := a) (op := op) w hop ha hv hi hz h1 hg hfit
  exact Lo.oper ho hw hk (.inr ⟨h2, rfl⟩) (fun e he => by obtain ⟨ad, h4, _⟩ := h3 e he; exact evN_cell h4) hs
/-- A call of a plain function, by its contract. -/
theorem Lo.call {F : FuncId → Bool} (hP : PlainProg P F) {f : FuncId} {fn : Func} {args : Array Operand} {ats : Array TypeId} {vs : Array Value} {R : Ending → World → Prop} (ho : ops[i]? = some op) (hw : Region.wanted op (yielded ops a.tmps) = true) (hk : b.kind ≠ .early) (hop : op.op = .call { callee := .value (.func f), args, argTypes := ats })
    (hf : P.funcs[f]? = some fn) (hname : (fn.name == "runtime.NumGoroutine") = false) (hb : fn.body.isNone = false) (hF : F f = true) (hvs : args.map a.eval = vs) (hc : Calls P f vs w R) (hR : ∀ e w', R e w' → ∃ v, e = .returned v)
    (hs : ∀ v w', R (.returned v) w' → Lo P Stop (G (b.at (a.put op.dst v) (.inRegion ops rest :: k)) cs) w') : Lo P Stop (G (b.at a (.inRegion ops (i :: rest) :: k)) cs) w := by
  refine Lo.ctl rfl (g' := G (Frame.enter P f (args.map a.eval) .normal) (b.at a (.inRegion ops (i :: rest) :: k) :: cs)) (fun w => ?_) ?_
  · rw [stepG_enter ho hw hk (run_call_body hop hf hname hb)]
    have : listed P b.fn a op w = #[] := by unfold listed; rw [events_call_body hop hf hname hb]; exact seen_none P _
    rw [this]
  · rw [hvs]
    refine calls_goes hP hF hc hR fun v w' hr => ?_
    rw [Frame.finish_at, ho]
    exact hs v w' hr
/-- A call that is walked into. -/
theorem Lo.enter {f : FuncId} {fn : Func} {args : Array Operand} {ats : Array TypeId} {vs : Array Value} (ho : ops[i]? = some op) (hw : Region.wanted op (yielded ops a.tmps) = true) (hk : b.kind ≠ .early) (hop : op.op = .call { callee := .value (.func f), args, argTypes := ats })
    (hf : P.funcs[f]? = some fn) (hname : (fn.name == "runtime.NumGoroutine") = false) (hb : fn.body.isNone = false) (hvs : args.map a.eval = vs)
    (hs : Lo P Stop (G (Frame.enter P f vs .normal) (b.at a (.inRegion ops (i :: rest) :: k) :: cs)) w) : Lo P Stop (G (b.at a (.inRegion ops (i :: rest) :: k)) cs) w := by
  refine Lo.ctl rfl (g' := G (Frame.enter P f (args.map a.eval) .normal) (b.at a (.inRegion ops (i :: rest) :: k) :: cs)) (fun w => ?_) (by rw [hvs]; exact hs)
  rw [stepG_enter ho hw hk (run_call_body hop hf hname hb)]
  have : listed P b.fn a op w = #[] := by unfold listed; rw [events_call_body hop hf hname hb]; exact seen_none P _
  rw [this]
end
end Go.Proofs.Ytjkfnjjkjhggfaa
set_option linter.unusedSimpArgs false
set_option linter.unusedVariables false
namespace Go.Proofs.Ytjkfnjjkjhggfaa
open Go.Conc Go.RowKit

def SrcPre (w : World) (s : Value) (xs : List Value) : Prop :=
  (s = .slice none 0 0 ∧ xs = []) ∨ ∃ ad cp, s = .slice (some ad) xs.length cp ∧ (∀ j u, xs[j]? = some u → w.cell? (ad.add j) = some u) ∧ ∀ u ∈ xs, u.oneCell' = true
/-- A change that lies in memory. -/
structure DataPre (w : World) (s1 s2 : Value) (N1 N2 : Nat) (Ds : List Rg) (Ls : List Rt) : Prop where
  sh1 : ∃ a cp, s1 = .slice a N1 cp
  sh2 : ∃ a cp, s2 = .slice a N2 cp
  drop : ∀ i, i < N1 → ∃ ad cp f b, Ds[i]? = some (f, b) ∧ s1 = .slice (some ad) N1 cp ∧ ∀ j u, [Value.int .i64 f, .int .i64 b][j]? = some u → w.cell? ((ad.add (i * 2)).add j) = some u
  tell : ∀ i, i < N2 → ∃ ad cp f b p l q A B A' B', (Ls[i]? = some (f, b, l, A', B') ∧ A = A'.map (Value.int .i64) ∧ B = B'.map (Value.int .i64)) ∧ s2 = .slice (some ad) N2 cp ∧ (∀ j u, [Value.int .i64 f, .int .i64 b, p, .int .i64 l, q][j]? = some u → w.cell? ((ad.add (i * 5)).add j) = some u) ∧
    SrcPre w p A ∧ SrcPre w q B ∧ A.length ≤ 1000000 ∧ B.length ≤ 1000000
  few : N1 + N2 ≤ 1000000
  l1 : Ds.length = N1
  l2 : Ls.length = N2
section
variable {w w4 : World} {s1 s2 : Value} {N1 N2 nf c bm bd : Nat} {Ds : List Rg} {Ls : List Rt}
theorem cko_of (hnf : w.heap.size ≤ nf) (hc : w.heap.size ≤ c) (hold : ∀ k, k < w.heap.size → w4.heap[k]? = w.heap[k]?) {A : Addr} {v : Value} (h : w.cell? A = some v) : Cko nf c w4 A v := by
  have hlt := World.block_lt_of_cell? _ _ h
  exact ⟨by omega, by omega, (World.cell?_of_block (hold _ hlt)).trans h⟩
theorem srcOld_of (hnf : w.heap.size ≤ nf) (hc : w.heap.size ≤ c) (hold : ∀ k, k < w.heap.size → w4.heap[k]? = w.heap[k]?) {s : Value} {xs : List Value} (h : SrcPre w s xs) : SrcOld nf c w4 s xs :=
  h.imp id fun ⟨ad, cp, h1, h2, h3⟩ => ⟨ad, cp, h1, fun j u hj => cko_of hnf hc hold (h2 j u hj), h3⟩
theorem dataO_of (D : DataPre w s1 s2 N1 N2 Ds Ls) (hnf : w.heap.size ≤ nf) (hc : w.heap.size ≤ c) (hold : ∀ k, k < w.heap.size → w4.heap[k]? = w.heap[k]?) (hcn : c < nf) (hb : ∀ i v, #[s1, s2][i]? = some v → Cko nf c w4 ⟨bd, i, none⟩ v) (hm : Cko nf c w4 ⟨bm, 0, none⟩ (.chan (some c))) : DataO nf c w4 bm bd s1 s2 N1 N2 Ds Ls :=
  ⟨hcn, hb, hm, D.sh1, D.sh2, fun i hi => let ⟨ad, cp, f, b, h0, h1, h2⟩ := D.drop i hi; ⟨ad, cp, f, b, h0, h1, fun j u hj => cko_of hnf hc hold (h2 j u hj)⟩,
   fun i hi => let ⟨ad, cp, f, b, p, l, q, A, B, A', B', h0, h1, h2, h3, h4, h5, h6⟩ := D.tell i hi; ⟨ad, cp, f, b, p, l, q, A, B, A', B', h0, h1, fun j u hj => cko_of hnf hc hold (h2 j u hj), srcOld_of hnf hc hold h3, srcOld_of hnf hc hold h4, h5, h6⟩, D.few, D.l1, D.l2⟩
end
section
variable {nf c bm N : Nat} {w0 w : World} {o : Who} {Post : Value → World → Prop} {u : Frame} {cs : List Frame} {v : Value}
/-- Behind the close: to the caller. -/
theorem tail_cut {a : Act} (S : SlotsM a c bm v) (h9 : a.eval (.tmp 9) = .tuple #[zM, .bool false]) (hk : RetO Try.prog Post (G (u.finish v) cs) w) : RetO Try.prog Post (recvM (u :: cs) [1] a) w := by
  have e : recvM (u :: cs) [1] a = recvM (u :: cs) [1] a := rfl
  conv at e => rhs; simp only [recvM, ops5M, restM, loopM, tailM, bodyM, Try.f16, Option.getD_some]
  rw [e]
  clear e
  refine RetO.pu (Pu.extract (vs := #[zM, .bool false]) (v := .bool false) rfl (by simp [ev_put_ne, ev_put_eq, ev_const, sz_put, S.size, S.t3, S.t4, S.t8, h9]) rfl) rfl rfl (by decide) ?_
  simp only [List.getElem_toArray, List.getElem_cons_succ, List.getElem_cons_zero, ev_put_none]
  refine RetO.ctl rfl (fun _ => stepG_region_end) ?_
  refine RetO.ctl rfl (fun _ => stepG_seq) ?_
  refine RetO.ctl rfl (fun _ => stepG_cond (t := false) (by simp [ev_put_ne, ev_put_eq, ev_const, sz_put, S.size, S.t3, S.t4, S.t8, h9])) ?_
  simp only [if_false, Bool.false_eq_true]
  refine RetO.ctl rfl (fun _ => stepG_exit rfl) ?_
  refine RetO.ctl rfl (fun _ => stepG_seq) ?_
  refine RetO.ctl rfl (fun _ => stepG_region) ?_
  simp only [List.size_toArray, List.length_cons, List.length_nil, Nat.reduceAdd, Nat.zero_add, List.range, List.range.loop]
  refine RetO.pu (Pu.move (v := v) rfl (by simp [ev_put_ne, ev_put_eq, ev_const, sz_put, S.size, S.t3, S.t4, S.t8])) rfl rfl (by decide) ?_
  simp only [List.getElem_toArray, List.getElem_cons_succ, List.getElem_cons_zero, ev_put_none]
  refine RetO.pu (Pu.assign (v := v) rfl (by simp [ev_put_ne, ev_put_eq, ev_const, sz_put, S.size, S.t3, S.t4, S.t8])) rfl rfl (by decide) ?_
  simp only [List.getElem_toArray, List.getElem_cons_succ, List.getElem_cons_zero, ev_put_none]
  refine RetO.ctl rfl (fun _ => stepG_region_end) ?_
  refine RetO.ctl rfl (fun _ => stepG_ret') ?_
  refine RetO.ctl rfl (g' := G (u.finish v) cs) (fun w => ?_) hk
  have hv : Array.getD (((a.put (some 10) (Value.bool false)).put (some 16) v).put (some 2) v).tmps 2 undef = v := (by have := @ev_put_eq ((a.put (some 10) (Value.bool false)).put (some 16) v) 2 v (by simp [sz_put, S.size]); exact this)
  rw [stepG_leave rfl (by simpa [df_put] using S.defers) Try.func16 (results_tmp rfl _ _ w) (events_results_tmp rfl _ _)]
  rw [hv]
end
section
variable {P : Program} {b : Frame} {a : Act} {k : List Item} {cs : List Frame} {ops : Array Oper} {i : Nat} {rest : List Nat} {op : Oper} {w : World}
theorem box_law {t : TypeId} {x : Operand} {v : Value} (hop : op.op = .box t x) (hx : a.eval x = v) (w : World) : (execOp a.eval op).run P w = .ok (.value (.pointer (some ⟨w.heap.size, 0, none⟩))) (w.alloc (.cells v.cells t)) ∧ (execOp a.eval op).events P w #[] = #[] := by
  unfold execOp
  constructor <;> simp [hop, hx, Instr.box, newVar, newRow]
theorem alloc_law {t : TypeId} {z : Value} (hop : op.op = .alloc t) (hz : ∀ w, (zeroValue t).run P w = .ok z w) (hze : ∀ w, (zeroValue t).events P w #[] = #[]) (w : World) : (execOp a.eval op).run P w = .ok (.value (.pointer (some ⟨w.heap.size, 0, none⟩))) (w.alloc (.cells z.cells t)) ∧ (execOp a.eval op).events P w #[] = #[] := by
  unfold execOp
  constructor <;> simp [hop, hz, hze, Instr.alloc, newVar, newRow]
theorem run_go {x : Operand} {f : FuncId} {cap : Array Value} (hop : op.op = .go { callee := .value x, args := #[], argTypes := #[] }) (hx : a.eval x = .func (.func f) #[] cap) (w : World) :
    (execOp a.eval op).run P w = .ok (.spawn { target := .fn (.func f) cap, args := #[] }) w ∧ (execOp a.eval op).events P w #[] = #[] := by
  unfold execOp
  constructor <;> simp [hop, resolve, hx, Deferred.ofValue]
theorem run_makeChan3 (w : World) : (Instr.makeChan 60 (.int .i64 3)).run Try.prog w = .ok (.chan (some w.heap.size)) (w.alloc (.chan 3 #[] false 0 0 false)) ∧ (Instr.makeChan 60 (.int .i64 3)).events Try.prog w #[] = #[] := by
  constructor <;> kernel_rfl
end
section
variable {Post : Value → World → Prop} {u : Frame} {cs : List Frame} {s1 s2 : Value} {N1 N2 : Nat} {w : World} {Ds : List Rg} {Ls : List Rt}
theorem goesO_of_seg {P : Program} {nf c n : Nat} {me : Bool} {Q Stop : Goroutine → World → Who → Prop} {g : Goroutine} {w : World} {o : Who} (hs : Seg P nf c me Q n g w o) (h : ∀ g' w' o', Q g' w' o' → ∀ w1 o1, RO nf c me w' o' w1 o1 → Stop g' w1 o1) : GoesO P nf c me Stop (0 + n) g w o := hs _ 0 h
theorem zeroC_events (w : World) : (zeroValue 60).events Try.prog w #[] = #[] := by kernel_rfl
theorem lst_of {P : Nat → LtD → Prop} : ∀ (got : List Value) (s : Nat), (∀ (i : Nat) (v : Value), got[i]? = some v → ∃ d : LtD, v = .agg #[d.u, d.v] ∧ P (s + i) d) → ∃ ds : List LtD, got = ds.map (fun d => .agg #[d.u, d.v]) ∧ ∀ (i : Nat) (d : LtD), ds[i]? = some d → P (s + i) d
  | [], s, _ => ⟨[], rfl, fun i d h => by simp at h⟩
  | m :: got, s, h => by
    obtain ⟨d, rfl, hd⟩ := h 0 m rfl
    obtain ⟨ds, rfl, h2⟩ := lst_of got (s + 1) (fun i v hi => by
      have := h (i + 1) v (by simpa using hi)
      rwa [show s + (i + 1) = s + 1 + i by omega] at this)
    refine ⟨d :: ds, rfl, fun i d' hi => ?_⟩
    match i, hi with
    | 0, hi => cases hi; exact hd
    | i + 1, hi =>
      have := h2 i d' (by simpa using hi)
      rwa [show s + 1 + i = s + (i + 1) by omega] at this
theorem lts_of {w : World} {nf n : Nat} {v : Value} {got : List Value} (h : w.ownsRow nf 32 2 v n (cellsM got)) (hd : Dones Ds Ls w got) (hl : got.length = (Ds.length + Ls.length + 2) / 3) : Lts w v (pcs Ds Ls) := by
  obtain ⟨ds, hds⟩ := lst_of (P := fun i d => shLt.rd w d (cut Ds Ls (i * 3) (i * 3 + 3))) got 0 (fun i v hi => by rw [Nat.zero_add]; exact hd i v hi)
  simp only [Nat.zero_add] at hds
  obtain ⟨rfl, h2⟩ := hds
  have e : cellsM (ds.map fun d : LtD => Value.agg #[d.u, d.v]) = ds.flatMap encLt := by
    unfold cellsM
    rw [List.flatMap_map]
    rfl
  rw [e] at h
  rw [List.length_map] at hl
  refine ⟨ds, rows_of_own (fun _ => rfl) (by decide) h, by rw [hl, pcs_len], fun k s hk => ?_⟩
  have hlt : k < (Ds.length + Ls.length + 2) / 3 := by rw [← pcs_len]; exact (List.getElem?_eq_some_iff.1 hk).1
  rw [pcs_at Ds Ls hlt] at hk
  cases hk
  obtain ⟨d, hd⟩ : ∃ d, ds[k]? = some d := ⟨_, List.getElem?_eq_getElem (by omega)⟩
  exact ⟨d, hd, h2 k d hd⟩
set_option maxRecDepth 100000 in
theorem cut_go (D : DataPre w s1 s2 N1 N2 Ds Ls) (htail : ∀ v w1 ao cp, v = .slice ao ((N1 + N2 + 2) / 3) cp → Lts w1 v (pcs Ds Ls) → Below w.heap.size w w1 → RetO Try.prog Post (G (u.finish v) cs) w1) :
    Lo Try.prog (AtGoO Try.prog Post) (G (Frame.enter Try.prog 16 #[.agg #[s1, s2]] .normal) (u :: cs)) w := by
  rw [enter_at _ Try.func16 (show Try.f16.body = some bodyM from rfl)]
  generalize ha : Act.mk _ [] = a
  have hs : a.tmps.size = 17 := by rw [← ha]; simp [Try.ntmps16]
  have hd : a.defers = [] := by rw [← ha]
  have h0 : a.eval (.tmp 0) = .agg #[s1, s2] := by rw [← ha]; simp [Act.eval]
  clear ha
  obtain ⟨a1, c1, rfl⟩ := D.sh1
  obtain ⟨a2, c2, rfl⟩ := D.sh2
  generalize hL : loopM = L
  generalize hT : tailM = T
  have e : bodyM = bodyM := rfl
  conv at e => rhs; simp only [bodyM, Try.f16, Option.getD_some]
  rw [e]
  clear e
  refine Lo.ctl rfl (fun _ => stepG_seq) ?_
  refine Lo.ctl rfl (fun _ => stepG_region) ?_
  simp only [List.size_toArray, List.length_cons, List.length_nil, Nat.reduceAdd, Nat.zero_add, List.range, List.range.loop]
  refine Lo.new rfl rfl (by decide) (.cells #[.slice a1 N1 c1, .slice a2 N2 c2] 32) (fun g => .pointer (some ⟨g, 0, none⟩)) (fun w => (box_law rfl h0 w).1) (fun w => (box_law rfl h0 w).2) ?_
  simp only [List.getElem_toArray, List.getElem_cons_succ, List.getElem_cons_zero, ev_put_none]
  refine Lo.pu (Pu.assign (v := .slice none 0 0) rfl rfl) rfl rfl (by decide) ?_
  simp only [List.getElem_toArray, List.getElem_cons_succ, List.getElem_cons_zero, ev_put_none]
  refine Lo.ctl rfl (fun _ => stepG_region_end) ?_
  obtain ⟨w1, hw1⟩ : ∃ w1, w1 = w.alloc (.cells #[.slice a1 N1 c1, .slice a2 N2 c2] 32) := ⟨_, rfl⟩
  rw [← hw1]
  have z1 : w1.heap.size = w.heap.size + 1 := by rw [hw1]; simp
  have b1 : w1.heap[w.heap.size]? = some (.cells #[.slice a1 N1 c1, .slice a2 N2 c2] 32) := by rw [hw1]; exact heapA_new ..
  have k1 : Below w.heap.size w w1 := by rw [hw1]; exact (Below.refl _ _).alloc (Nat.le_refl _) _
  clear hw1
  refine Lo.ctl rfl (fun _ => stepG_seq) ?_
  refine Lo.ctl rfl (fun _ => stepG_region) ?_
  simp only [List.size_toArray, List.length_cons, List.length_nil, Nat.reduceAdd, Nat.zero_add, List.range, List.range.loop]
  refine Lo.oper (v := .chan (some w1.heap.size)) (w' := w1.alloc (.chan 3 #[] false 0 0 false)) rfl rfl (by decide) (.inl ?_) ?_ ?_
  · simp [execOp, ev_const, run_makeChan3 w1]
  · simp [execOp, ev_const, run_makeChan3 w1]
  simp only [List.getElem_toArray, List.getElem_cons_succ, List.getElem_cons_zero, ev_put_none]
  obtain ⟨w2, hw2⟩ : ∃ w2, w2 = w1.alloc (.chan 3 #[] false 0 0 false) := ⟨_, rfl⟩
  rw [← hw2]
  have z2 : w2.heap.size = w.heap.size + 2 := by rw [hw2]; simp [z1]
  have b2 : w2.heap[w.heap.size]? = some (.cells #[.slice a1 N1 c1, .slice a2 N2 c2] 32) := by rw [hw2]; exact (heapA_old _ _ _ (by omega)).trans b1
  have c2' : w2.heap[w1.heap.size]? = some (.chan 3 #[] false 0 0 false) := by rw [hw2]; exact heapA_new ..
  have k2 : Below w.heap.size w w2 := by rw [hw2]; exact k1.alloc (by omega) _
  clear hw2 b1 k1
  refine Lo.new rfl rfl (by decide) (.cells #[.chan none] 60) (fun g => .pointer (some ⟨g, 0, none⟩)) (fun w => (alloc_law rfl Try.zeroValue60 zeroC_events w).1) (fun w => (alloc_law rfl Try.zeroValue60 zeroC_events w).2) ?_
  simp only [List.getElem_toArray, List.getElem_cons_succ, List.getElem_cons_zero, ev_put_none]
  obtain ⟨w3, hw3⟩ : ∃ w3, w3 = w2.alloc (.cells #[.chan none] 60) := ⟨_, rfl⟩
  rw [← hw3]
  have z3 : w3.heap.size = w.heap.size + 3 := by rw [hw3]; simp [z2]
  have b3 : w3.heap[w.heap.size]? = some (.cells #[.slice a1 N1 c1, .slice a2 N2 c2] 32) := by rw [hw3]; exact (heapA_old _ _ _ (by omega)).trans b2
  have c3' : w3.heap[w1.heap.size]? = some (.chan 3 #[] false 0 0 false) := by rw [hw3]; exact (heapA_old _ _ _ (by omega)).trans c2'
  have m3 : w3.heap[w2.heap.size]? = some (.cells #[.chan none] 60) := by rw [hw3]; exact heapA_new ..
  have k3 : Below w.heap.size w w3 := by rw [hw3]; exact k2.alloc (by omega) _
  clear hw3 b2 k2 c2'
  refine Lo.store (g := w2.heap.size) (off := 0) (vs := [.chan (some w1.heap.size)]) rfl rfl (by decide) rfl (by simp [ev_put_ne, ev_put_eq, ev_const, sz_put, hs]) (by simp [ev_put_ne, ev_put_eq, ev_const, sz_put, hs, Value.cells]) Try.type60 rfl (by simp [Value.oneCell']) m3 (by simp) ?_
  simp only [List.getElem_toArray, List.getElem_cons_succ, List.getElem_cons_zero, ev_put_none]
  obtain ⟨w4, hw4⟩ : ∃ w4, w4 = w3.setRow w2.heap.size #[.chan (some w1.heap.size)] := ⟨_, rfl⟩
  have e4 : w3.setRow w2.heap.size (#[Value.chan none].toList.take 0 ++ [Value.chan (some w1.heap.size)] ++ #[Value.chan none].toList.drop (0 + [Value.chan (some w1.heap.size)].length)).toArray = w4 := hw4.symm
  rw [e4]
  clear e4
  have z4 : w4.heap.size = w.heap.size + 3 := by rw [hw4]; simp [z3]
  have b4 : w4.heap[w.heap.size]? = some (.cells #[.slice a1 N1 c1, .slice a2 N2 c2] 32) := by rw [hw4]; exact (setRow_other _ _ _ _ (by omega)).trans b3
  have c4' : w4.heap[w1.heap.size]? = some (.chan 3 #[] false 0 0 false) := by rw [hw4]; exact (setRow_other _ _ _ _ (by omega)).trans c3'
  have m4 : w4.heap[w2.heap.size]? = some (.cells #[.chan (some w1.heap.size)] 60) := by rw [hw4]; exact setRow_heap _ _ _ _ _ _ m3
  have k4 : Below w.heap.size w w4 := by rw [hw4]; exact k3.trans ⟨rfl, rfl, rfl, by simp, fun k hk => setRow_other _ _ _ _ (by omega)⟩
  clear hw4 b3 k3 c3' m3
  refine Lo.ctl rfl (fun _ => stepG_region_end) ?_
  refine Lo.ctl rfl (fun _ => stepG_seq) ?_
  refine Lo.ctl rfl (fun _ => stepG_region) ?_
  simp only [List.size_toArray, List.length_cons, List.length_nil, Nat.reduceAdd, Nat.zero_add, List.range, List.range.loop]
  refine Lo.oper (v := .func (.func 34) #[] #[.pointer (some ⟨w2.heap.size, 0, none⟩), .pointer (some ⟨w.heap.size, 0, none⟩)]) (w' := w4) rfl rfl (by decide) (.inl ?_) ?_ ?_
  · simp [execOp, Instr.makeFunc, ev_put_ne, ev_put_eq, ev_const, sz_put, hs]
  · simp [execOp, Instr.makeFunc]
  simp only [List.getElem_toArray, List.getElem_cons_succ, List.getElem_cons_zero, ev_put_none]
  have hcn : w1.heap.size < w4.heap.size := by omega
  have DO4 : DataO w4.heap.size w1.heap.size w4 w2.heap.size w.heap.size (.slice a1 N1 c1) (.slice a2 N2 c2) N1 N2 Ds Ls := by
    refine dataO_of D (by omega) (by omega) k4.block hcn (fun i v hv => ⟨?_, ?_, ?_⟩) ⟨?_, ?_, ?_⟩
    · show w.heap.size < _; omega
    · show w.heap.size ≠ _; omega
    · simp [World.cell?, b4, hv]
    · show w2.heap.size < _; omega
    · show w2.heap.size ≠ _; omega
    · simp [World.cell?, m4]
  have hO4 : OldO w4.heap.size w1.heap.size w4 w4 := ⟨rfl, rfl, rfl, Nat.le_refl _, fun _ _ _ => rfl⟩
  refine Lo.stop ⟨rfl, _, _, w4, _, w1.heap.size, 3, (N1 + N2 + 2) / 3, zM, Vmsg, FactC w4.heap.size w1.heap.size Ds Ls, 0, 0, false, stepG_spawn rfl rfl (by decide) (run_go rfl (by simp [ev_put_ne, ev_put_eq, ev_const, sz_put, hs]; exact ⟨rfl, rfl⟩) w4).1 rfl, ?_, hcn, by decide, fun _ _ _ _ _ r h => h.ro r, c4', fun o => ?_, fun o => ?_⟩
  · intro e he
    have := mem_listed he
    rw [(run_go (f := 34) (cap := #[.pointer (some ⟨w2.heap.size, 0, none⟩), .pointer (some ⟨w.heap.size, 0, none⟩)]) rfl (by simp [ev_put_ne, ev_put_eq, ev_const, sz_put, hs]) w4).2] at this
    simp at this
  · refine (recvsO_iff ..).2 ⟨0 + 200, ?_⟩
    refine goesO_of_seg (Q := fun g' w' o' => ∃ a', g' = recvM (u :: cs) [0, 1] a' ∧ SlotsM a' w1.heap.size w2.heap.size (.slice none 0 0) ∧ OutM w4.heap.size w1.heap.size w4 w' o' (.slice none 0 0) 0 (cellsM [])) ?_ ?_
    ·
      refine Seg.ctl rfl (fun _ => stepG_region_end) ?_
      refine Seg.ctl rfl (fun _ => stepG_seq) ?_
      first
      | refine Seg.ctl rfl (fun _ => stepG_seq) ?_
      | refine Seg.ctl rfl (fun _ => stepG_region_end) ?_
      | (refine Seg.ctl rfl (fun _ => stepG_region) ?_; simp only [List.size_toArray, List.length_cons, List.length_nil, Nat.reduceAdd, Nat.zero_add, List.range, List.range.loop])
      | refine Seg.ctl rfl (fun _ => stepG_block) ?_
      | refine Seg.ctl rfl (fun _ => stepG_inBlock) ?_
      | refine Seg.ctl rfl (fun _ => stepG_ret') ?_
      | refine Seg.ctl rfl (fun _ => stepG_loop) ?_
      | refine Seg.ctl rfl (fun _ => stepG_inLoop) ?_
      | refine Seg.ctl rfl (fun _ => stepG_skip) ?_
      simp only [List.getElem_toArray, List.getElem_cons_succ, List.getElem_cons_zero, ev_put_none]
      refine Seg.pu (Pu.assign (v := .slice none 0 0) rfl rfl) rfl rfl (by decide) ?_
      simp only [List.getElem_toArray, List.getElem_cons_succ, List.getElem_cons_zero, ev_put_none]
      first
      | refine Seg.ctl rfl (fun _ => stepG_seq) ?_
      | refine Seg.ctl rfl (fun _ => stepG_region_end) ?_
      | (refine Seg.ctl rfl (fun _ => stepG_region) ?_; simp only [List.size_toArray, List.length_cons, List.length_nil, Nat.reduceAdd, Nat.zero_add, List.range, List.range.loop])
      | refine Seg.ctl rfl (fun _ => stepG_block) ?_
      | refine Seg.ctl rfl (fun _ => stepG_inBlock) ?_
      | refine Seg.ctl rfl (fun _ => stepG_ret') ?_
      | refine Seg.ctl rfl (fun _ => stepG_loop) ?_
      | refine Seg.ctl rfl (fun _ => stepG_inLoop) ?_
      | refine Seg.ctl rfl (fun _ => stepG_skip) ?_
      first
      | refine Seg.ctl rfl (fun _ => stepG_seq) ?_
      | refine Seg.ctl rfl (fun _ => stepG_region_end) ?_
      | (refine Seg.ctl rfl (fun _ => stepG_region) ?_; simp only [List.size_toArray, List.length_cons, List.length_nil, Nat.reduceAdd, Nat.zero_add, List.range, List.range.loop])
      | refine Seg.ctl rfl (fun _ => stepG_block) ?_
      | refine Seg.ctl rfl (fun _ => stepG_inBlock) ?_
      | refine Seg.ctl rfl (fun _ => stepG_ret') ?_
      | refine Seg.ctl rfl (fun _ => stepG_loop) ?_
      | refine Seg.ctl rfl (fun _ => stepG_inLoop) ?_
      | refine Seg.ctl rfl (fun _ => stepG_skip) ?_
      first
      | refine Seg.ctl rfl (fun _ => stepG_seq) ?_
      | refine Seg.ctl rfl (fun _ => stepG_region_end) ?_
      | (refine Seg.ctl rfl (fun _ => stepG_region) ?_; simp only [List.size_toArray, List.length_cons, List.length_nil, Nat.reduceAdd, Nat.zero_add, List.range, List.range.loop])
      | refine Seg.ctl rfl (fun _ => stepG_block) ?_
      | refine Seg.ctl rfl (fun _ => stepG_inBlock) ?_
      | refine Seg.ctl rfl (fun _ => stepG_ret') ?_
      | refine Seg.ctl rfl (fun _ => stepG_loop) ?_
      | refine Seg.ctl rfl (fun _ => stepG_inLoop) ?_
      | refine Seg.ctl rfl (fun _ => stepG_skip) ?_
      first
      | refine Seg.ctl rfl (fun _ => stepG_seq) ?_
      | refine Seg.ctl rfl (fun _ => stepG_region_end) ?_
      | (refine Seg.ctl rfl (fun _ => stepG_region) ?_; simp only [List.size_toArray, List.length_cons, List.length_nil, Nat.reduceAdd, Nat.zero_add, List.range, List.range.loop])
      | refine Seg.ctl rfl (fun _ => stepG_block) ?_
      | refine Seg.ctl rfl (fun _ => stepG_inBlock) ?_
      | refine Seg.ctl rfl (fun _ => stepG_ret') ?_
      | refine Seg.ctl rfl (fun _ => stepG_loop) ?_
      | refine Seg.ctl rfl (fun _ => stepG_inLoop) ?_
      | refine Seg.ctl rfl (fun _ => stepG_skip) ?_
      refine Seg.load hcn (A := ⟨w2.heap.size, 0, none⟩) (vs := [.chan (some w1.heap.size)]) rfl rfl (by decide) rfl (by simp [ev_put_ne, ev_put_eq, ev_const, sz_put, hs]) (.one Try.underlying60 rfl) (ck1 (DO4.msg.ck hO4)) ?_
      simp only [List.getElem_toArray, List.getElem_cons_succ, List.getElem_cons_zero, ev_put_none]
      first
      | refine Seg.ctl rfl (fun _ => stepG_seq) ?_
      | refine Seg.ctl rfl (fun _ => stepG_region_end) ?_
      | (refine Seg.ctl rfl (fun _ => stepG_region) ?_; simp only [List.size_toArray, List.length_cons, List.length_nil, Nat.reduceAdd, Nat.zero_add, List.range, List.range.loop])
      | refine Seg.ctl rfl (fun _ => stepG_block) ?_
      | refine Seg.ctl rfl (fun _ => stepG_inBlock) ?_
      | refine Seg.ctl rfl (fun _ => stepG_ret') ?_
      | refine Seg.ctl rfl (fun _ => stepG_loop) ?_
      | refine Seg.ctl rfl (fun _ => stepG_inLoop) ?_
      | refine Seg.ctl rfl (fun _ => stepG_skip) ?_
      first
      | refine Seg.ctl rfl (fun _ => stepG_seq) ?_
      | refine Seg.ctl rfl (fun _ => stepG_region_end) ?_
      | (refine Seg.ctl rfl (fun _ => stepG_region) ?_; simp only [List.size_toArray, List.length_cons, List.length_nil, Nat.reduceAdd, Nat.zero_add, List.range, List.range.loop])
      | refine Seg.ctl rfl (fun _ => stepG_block) ?_
      | refine Seg.ctl rfl (fun _ => stepG_inBlock) ?_
      | refine Seg.ctl rfl (fun _ => stepG_ret') ?_
      | refine Seg.ctl rfl (fun _ => stepG_loop) ?_
      | refine Seg.ctl rfl (fun _ => stepG_inLoop) ?_
      | refine Seg.ctl rfl (fun _ => stepG_skip) ?_
      refine Seg.ctl rfl (fun _ => stepG_loop) ?_
      first
      | refine Seg.ctl rfl (fun _ => stepG_seq) ?_
      | refine Seg.ctl rfl (fun _ => stepG_region_end) ?_
      | (refine Seg.ctl rfl (fun _ => stepG_region) ?_; simp only [List.size_toArray, List.length_cons, List.length_nil, Nat.reduceAdd, Nat.zero_add, List.range, List.range.loop])
      | refine Seg.ctl rfl (fun _ => stepG_block) ?_
      | refine Seg.ctl rfl (fun _ => stepG_inBlock) ?_
      | refine Seg.ctl rfl (fun _ => stepG_ret') ?_
      | refine Seg.ctl rfl (fun _ => stepG_loop) ?_
      | refine Seg.ctl rfl (fun _ => stepG_inLoop) ?_
      | refine Seg.ctl rfl (fun _ => stepG_skip) ?_
      first
      | refine Seg.ctl rfl (fun _ => stepG_seq) ?_
      | refine Seg.ctl rfl (fun _ => stepG_region_end) ?_
      | (refine Seg.ctl rfl (fun _ => stepG_region) ?_; simp only [List.size_toArray, List.length_cons, List.length_nil, Nat.reduceAdd, Nat.zero_add, List.range, List.range.loop])
      | refine Seg.ctl rfl (fun _ => stepG_block) ?_
      | refine Seg.ctl rfl (fun _ => stepG_inBlock) ?_
      | refine Seg.ctl rfl (fun _ => stepG_ret') ?_
      | refine Seg.ctl rfl (fun _ => stepG_loop) ?_
      | refine Seg.ctl rfl (fun _ => stepG_inLoop) ?_
      | refine Seg.ctl rfl (fun _ => stepG_skip) ?_
      subst hT
      exact Seg.done ⟨_, rfl, ⟨by simp [sz_put, hs], by simpa [df_put] using hd, by simp [ev_put_ne, ev_put_eq, ev_const, sz_put, hs], by simp [ev_put_ne, ev_put_eq, ev_const, sz_put, hs], by simp [ev_put_ne, ev_put_eq, ev_const, sz_put, hs]⟩, hO4, OwnO.nil ..⟩
    · rintro _ w5 o5 ⟨a', rfl, S, W⟩ w6 o6 r6
      refine stopR_head (N := (N1 + N2 + 2) / 3) (w0 := w4) hcn (by have := D.few; omega) (fun a v w7 o7 got S7 W7 h9 hF => tail_cut S7 h9 ?_) ((N1 + N2 + 2) / 3) 0 [] a' (.slice none 0 0) w6 o6 (by omega) S ⟨W.old.ro r6, W.own.rx hcn (r6.rx none) (by simp)⟩
      have h := W7.own
      have hL := lts_of h.row hF.dones hF.1
      obtain ⟨ao, cp, rfl⟩ := h.sl
      exact htail _ w7 ao cp rfl hL (k4.trans ⟨W7.old.os, W7.old.tape, W7.old.out, W7.old.size, fun k hk => W7.old.block k (by omega) (by omega)⟩)
  · exact childSends DO4 hO4
end
end Go.Proofs.Ytjkfnjjkjhggfaa
