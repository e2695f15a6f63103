/- The worker of impl.DeltaCut from its first step. The worker of impl.DeltaCut, whole: born at the go statement it sends so many messages, and closes. The caller in impl.DeltaCut: it receives, and appends. -/
import Derived.Test.YtjkfnjjkjhggfaaZ25
set_option linter.unusedSimpArgs false
set_option linter.unusedVariables false
namespace Go.Proofs.Ytjkfnjjkjhggfaa
open Go.Conc Go.RowKit

section
variable {nf c bm bd N1 N2 : Nat} {w0 w : World} {o : Who} {s1 s2 : Value}
theorem entryW (D : DataO nf c w0 bm bd s1 s2 N1 N2) (hO : OldO nf c w0 w) {a : Act} (hs : a.tmps.size = 52) (hd : a.defers = []) (h0 : a.eval (.tmp 0) = .pointer (some ⟨bm, 0, none⟩)) (h1 : a.eval (.tmp 1) = .pointer (some ⟨bd, 0, none⟩)) :
    Seg Try.prog nf c false (fun g' w' o' => ∃ a' kn, g' = headW a' ∧ SlotsW a' c bm bd kn (N1 + N2) 0 ∧ NowW nf c w0 w' o' kn 0 0) 500 (G ((baseD 34).at a [.code bodyW]) [botW]) w o := by
  simp only [headW]
  generalize hL : loopW = L
  generalize hT : tailW = T
  have e : bodyW = bodyW := rfl
  conv at e => rhs; simp only [bodyW, Try.f34, Option.getD_some]
  rw [e]
  obtain ⟨a1, c1, rfl⟩ := D.sh1
  obtain ⟨a2, c2, rfl⟩ := D.sh2
  first
  | refine Seg.ctl rfl (fun _ => stepG_seq) ?_
  | refine Seg.ctl rfl (fun _ => stepG_region_end) ?_
  | (refine Seg.ctl rfl (fun _ => stepG_region) ?_; simp only [List.size_toArray, List.length_cons, List.length_nil, Nat.reduceAdd, Nat.zero_add, List.range, List.range.loop])
  | refine Seg.ctl rfl (fun _ => stepG_block) ?_
  | refine Seg.ctl rfl (fun _ => stepG_inBlock) ?_
  | refine Seg.ctl rfl (fun _ => stepG_ret') ?_
  | refine Seg.ctl rfl (fun _ => stepG_loop) ?_
  | refine Seg.ctl rfl (fun _ => stepG_inLoop) ?_
  | refine Seg.ctl rfl (fun _ => stepG_skip) ?_
  first
  | refine Seg.ctl rfl (fun _ => stepG_seq) ?_
  | refine Seg.ctl rfl (fun _ => stepG_region_end) ?_
  | (refine Seg.ctl rfl (fun _ => stepG_region) ?_; simp only [List.size_toArray, List.length_cons, List.length_nil, Nat.reduceAdd, Nat.zero_add, List.range, List.range.loop])
  | refine Seg.ctl rfl (fun _ => stepG_block) ?_
  | refine Seg.ctl rfl (fun _ => stepG_inBlock) ?_
  | refine Seg.ctl rfl (fun _ => stepG_ret') ?_
  | refine Seg.ctl rfl (fun _ => stepG_loop) ?_
  | refine Seg.ctl rfl (fun _ => stepG_inLoop) ?_
  | refine Seg.ctl rfl (fun _ => stepG_skip) ?_
  refine Seg.load D.cn (A := ⟨bm, 0, none⟩) (vs := [.chan (some c)]) rfl rfl (by decide) rfl (by simp [ev_put_ne, ev_put_eq, ev_const, sz_put, hs, h0, h1]) (.one Try.underlying60 rfl) (ck1 (D.msg.ck hO)) ?_
  simp only [List.getElem_toArray, List.getElem_cons_succ, List.getElem_cons_zero, ev_put_none]
  refine Seg.ctl rfl (Classical.choose_spec (stepG_deferB rfl rfl (by decide) rfl)) ?_
  simp only [List.getElem_toArray, List.getElem_cons_succ, List.getElem_cons_zero, ev_put_none]
  generalize Classical.choose _ = cs'
  generalize hb : Act.mk (a.put (some 4) (Value.chan (some c))).tmps _ = b
  have hsb : b.tmps.size = 52 := by rw [← hb]; simp [sz_put, hs]
  have h0b : b.eval (.tmp 0) = .pointer (some ⟨bm, 0, none⟩) := by rw [← hb]; show (a.put (some 4) (Value.chan (some c))).eval (.tmp 0) = _; exact (by simp [ev_put_ne, ev_put_eq, ev_const, sz_put, hs, h0, h1])
  have h1b : b.eval (.tmp 1) = .pointer (some ⟨bd, 0, none⟩) := by rw [← hb]; show (a.put (some 4) (Value.chan (some c))).eval (.tmp 1) = _; exact (by simp [ev_put_ne, ev_put_eq, ev_const, sz_put, hs, h0, h1])
  have hdb : ∃ ty cs, b.defers = [{ target := .builtin .close #[60] ty cs, args := #[.chan (some c)] }] := ⟨0, cs', by rw [← hb]; simp [df_put, hd, ev_put_eq, hs]⟩
  clear hb h0 h1 hs hd e
  obtain ⟨ty, cs'', hdb⟩ := hdb
  first
  | refine Seg.ctl rfl (fun _ => stepG_seq) ?_
  | refine Seg.ctl rfl (fun _ => stepG_region_end) ?_
  | (refine Seg.ctl rfl (fun _ => stepG_region) ?_; simp only [List.size_toArray, List.length_cons, List.length_nil, Nat.reduceAdd, Nat.zero_add, List.range, List.range.loop])
  | refine Seg.ctl rfl (fun _ => stepG_block) ?_
  | refine Seg.ctl rfl (fun _ => stepG_inBlock) ?_
  | refine Seg.ctl rfl (fun _ => stepG_ret') ?_
  | refine Seg.ctl rfl (fun _ => stepG_loop) ?_
  | refine Seg.ctl rfl (fun _ => stepG_inLoop) ?_
  | refine Seg.ctl rfl (fun _ => stepG_skip) ?_
  first
  | refine Seg.ctl rfl (fun _ => stepG_seq) ?_
  | refine Seg.ctl rfl (fun _ => stepG_region_end) ?_
  | (refine Seg.ctl rfl (fun _ => stepG_region) ?_; simp only [List.size_toArray, List.length_cons, List.length_nil, Nat.reduceAdd, Nat.zero_add, List.range, List.range.loop])
  | refine Seg.ctl rfl (fun _ => stepG_block) ?_
  | refine Seg.ctl rfl (fun _ => stepG_inBlock) ?_
  | refine Seg.ctl rfl (fun _ => stepG_ret') ?_
  | refine Seg.ctl rfl (fun _ => stepG_loop) ?_
  | refine Seg.ctl rfl (fun _ => stepG_inLoop) ?_
  | refine Seg.ctl rfl (fun _ => stepG_skip) ?_
  first
  | refine Seg.ctl rfl (fun _ => stepG_seq) ?_
  | refine Seg.ctl rfl (fun _ => stepG_region_end) ?_
  | (refine Seg.ctl rfl (fun _ => stepG_region) ?_; simp only [List.size_toArray, List.length_cons, List.length_nil, Nat.reduceAdd, Nat.zero_add, List.range, List.range.loop])
  | refine Seg.ctl rfl (fun _ => stepG_block) ?_
  | refine Seg.ctl rfl (fun _ => stepG_inBlock) ?_
  | refine Seg.ctl rfl (fun _ => stepG_ret') ?_
  | refine Seg.ctl rfl (fun _ => stepG_loop) ?_
  | refine Seg.ctl rfl (fun _ => stepG_inLoop) ?_
  | refine Seg.ctl rfl (fun _ => stepG_skip) ?_
  refine Seg.new D.cn hO.size rfl rfl (by decide) (.cells #[.slice none 0 0, .slice none 0 0] 32) (fun g => .pointer (some ⟨g, 0, none⟩)) (fun w => ?_) (fun w => ?_) fun w1 o1 kn r hg hm K => ?_
  · simp [go_sem, execOp, Instr.alloc, newVar, newRow, Value.cells]
  · simp [go_sem, execOp, Instr.alloc, newVar, newRow, Value.cells]
  have hO1 := hO.rx r (by simp)
  have hnk : nf ≤ kn := Nat.le_trans hO.size hg
  clear r
  simp only [List.getElem_toArray, List.getElem_cons_succ, List.getElem_cons_zero, ev_put_none]
  first
  | refine Seg.ctl rfl (fun _ => stepG_seq) ?_
  | refine Seg.ctl rfl (fun _ => stepG_region_end) ?_
  | (refine Seg.ctl rfl (fun _ => stepG_region) ?_; simp only [List.size_toArray, List.length_cons, List.length_nil, Nat.reduceAdd, Nat.zero_add, List.range, List.range.loop])
  | refine Seg.ctl rfl (fun _ => stepG_block) ?_
  | refine Seg.ctl rfl (fun _ => stepG_inBlock) ?_
  | refine Seg.ctl rfl (fun _ => stepG_ret') ?_
  | refine Seg.ctl rfl (fun _ => stepG_loop) ?_
  | refine Seg.ctl rfl (fun _ => stepG_inLoop) ?_
  | refine Seg.ctl rfl (fun _ => stepG_skip) ?_
  first
  | refine Seg.ctl rfl (fun _ => stepG_seq) ?_
  | refine Seg.ctl rfl (fun _ => stepG_region_end) ?_
  | (refine Seg.ctl rfl (fun _ => stepG_region) ?_; simp only [List.size_toArray, List.length_cons, List.length_nil, Nat.reduceAdd, Nat.zero_add, List.range, List.range.loop])
  | refine Seg.ctl rfl (fun _ => stepG_block) ?_
  | refine Seg.ctl rfl (fun _ => stepG_inBlock) ?_
  | refine Seg.ctl rfl (fun _ => stepG_ret') ?_
  | refine Seg.ctl rfl (fun _ => stepG_loop) ?_
  | refine Seg.ctl rfl (fun _ => stepG_inLoop) ?_
  | refine Seg.ctl rfl (fun _ => stepG_skip) ?_
  first
  | refine Seg.ctl rfl (fun _ => stepG_seq) ?_
  | refine Seg.ctl rfl (fun _ => stepG_region_end) ?_
  | (refine Seg.ctl rfl (fun _ => stepG_region) ?_; simp only [List.size_toArray, List.length_cons, List.length_nil, Nat.reduceAdd, Nat.zero_add, List.range, List.range.loop])
  | refine Seg.ctl rfl (fun _ => stepG_block) ?_
  | refine Seg.ctl rfl (fun _ => stepG_inBlock) ?_
  | refine Seg.ctl rfl (fun _ => stepG_ret') ?_
  | refine Seg.ctl rfl (fun _ => stepG_loop) ?_
  | refine Seg.ctl rfl (fun _ => stepG_inLoop) ?_
  | refine Seg.ctl rfl (fun _ => stepG_skip) ?_
  first
  | refine Seg.ctl rfl (fun _ => stepG_seq) ?_
  | refine Seg.ctl rfl (fun _ => stepG_region_end) ?_
  | (refine Seg.ctl rfl (fun _ => stepG_region) ?_; simp only [List.size_toArray, List.length_cons, List.length_nil, Nat.reduceAdd, Nat.zero_add, List.range, List.range.loop])
  | refine Seg.ctl rfl (fun _ => stepG_block) ?_
  | refine Seg.ctl rfl (fun _ => stepG_inBlock) ?_
  | refine Seg.ctl rfl (fun _ => stepG_ret') ?_
  | refine Seg.ctl rfl (fun _ => stepG_loop) ?_
  | refine Seg.ctl rfl (fun _ => stepG_inLoop) ?_
  | refine Seg.ctl rfl (fun _ => stepG_skip) ?_
  refine Seg.load D.cn (A := ⟨bd, 0, none⟩) (vs := [.slice a1 N1 c1, .slice a2 N2 c2]) rfl rfl (by decide) rfl (by simp [ev_put_ne, ev_put_eq, ev_const, sz_put, hsb, h0b, h1b]) (.agg Try.underlying32 rfl Try.type32 rfl (by simp)) (fun j u hj => ?_) ?_
  · have := (D.box j u (by simpa using hj)).ck (me := false) (o := o1) hO1
    have e : (⟨bd, 0, none⟩ : Addr).add j = ⟨bd, j, none⟩ := by unfold Addr.add; split <;> simp_all
    rw [e]; exact this
  simp only [List.getElem_toArray, List.getElem_cons_succ, List.getElem_cons_zero, ev_put_none]
  refine Seg.le (Seg.callO (n := 300) (vs := #[.agg #[.slice a1 N1 c1, .slice a2 N2 c2]]) rfl rfl (by decide) rfl Try.func14 (by kernel_rfl) rfl (by simp [ev_put_ne, ev_put_eq, ev_const, sz_put, hsb, h0b, h1b]) (deltaMany_o D.cn hO1.size a1 a2 N1 c1 N2 c2 D.few) fun v w2 o2 h => ?_) (by omega)
  obtain ⟨rfl, r⟩ := h
  have W : NowW nf c w0 w2 o2 kn 0 0 := ⟨hO1.rx r (by simp), hnk, (r.own _ K.lt).trans hm, _, _, _, _, K.rx r (by simp), OwnO.nil .., OwnO.nil ..⟩
  clear r K hm
  simp only [List.getElem_toArray, List.getElem_cons_succ, List.getElem_cons_zero, ev_put_none]
  refine Seg.pu (Pu.move (v := .int .i64 0) rfl (by simp [ev_put_ne, ev_put_eq, ev_const, sz_put, hsb, h0b, h1b])) rfl rfl (by decide) ?_
  simp only [List.getElem_toArray, List.getElem_cons_succ, List.getElem_cons_zero, ev_put_none]
  first
  | refine Seg.ctl rfl (fun _ => stepG_seq) ?_
  | refine Seg.ctl rfl (fun _ => stepG_region_end) ?_
  | (refine Seg.ctl rfl (fun _ => stepG_region) ?_; simp only [List.size_toArray, List.length_cons, List.length_nil, Nat.reduceAdd, Nat.zero_add, List.range, List.range.loop])
  | refine Seg.ctl rfl (fun _ => stepG_block) ?_
  | refine Seg.ctl rfl (fun _ => stepG_inBlock) ?_
  | refine Seg.ctl rfl (fun _ => stepG_ret') ?_
  | refine Seg.ctl rfl (fun _ => stepG_loop) ?_
  | refine Seg.ctl rfl (fun _ => stepG_inLoop) ?_
  | refine Seg.ctl rfl (fun _ => stepG_skip) ?_
  first
  | refine Seg.ctl rfl (fun _ => stepG_seq) ?_
  | refine Seg.ctl rfl (fun _ => stepG_region_end) ?_
  | (refine Seg.ctl rfl (fun _ => stepG_region) ?_; simp only [List.size_toArray, List.length_cons, List.length_nil, Nat.reduceAdd, Nat.zero_add, List.range, List.range.loop])
  | refine Seg.ctl rfl (fun _ => stepG_block) ?_
  | refine Seg.ctl rfl (fun _ => stepG_inBlock) ?_
  | refine Seg.ctl rfl (fun _ => stepG_ret') ?_
  | refine Seg.ctl rfl (fun _ => stepG_loop) ?_
  | refine Seg.ctl rfl (fun _ => stepG_inLoop) ?_
  | refine Seg.ctl rfl (fun _ => stepG_skip) ?_
  refine Seg.ctl rfl (fun _ => stepG_loop) ?_
  subst hL hT
  exact Seg.done ⟨_, kn, rfl, ⟨by simp [sz_put, hsb], ⟨ty, cs'', by simpa [df_put] using hdb⟩, (by simp [ev_put_ne, ev_put_eq, ev_const, sz_put, hsb, h0b, h1b]), (by simp [ev_put_ne, ev_put_eq, ev_const, sz_put, hsb, h0b, h1b]), (by simp [ev_put_ne, ev_put_eq, ev_const, sz_put, hsb, h0b, h1b]), (by simp [ev_put_ne, ev_put_eq, ev_const, sz_put, hsb, h0b, h1b]), (by simp [ev_put_ne, ev_put_eq, ev_const, sz_put, hsb, h0b, h1b])⟩, W⟩
end
end Go.Proofs.Ytjkfnjjkjhggfaa
set_option linter.unusedSimpArgs false
set_option linter.unusedVariables false
namespace Go.Proofs.Ytjkfnjjkjhggfaa
open Go.Conc Go.RowKit

section
variable {nf c bm bd N1 N2 : Nat} {w0 w : World} {o : Who} {s1 s2 : Value}
/-- What the go statement starts. -/
def goW (bm bd : Nat) : Deferred := { target := .fn (.func 34) #[.pointer (some ⟨bm, 0, none⟩), .pointer (some ⟨bd, 0, none⟩)], args := #[] }
theorem born_step (w : World) : stepG Try.prog false (born Try.prog (goW bm bd)) w = .go (G (Frame.enter Try.prog 34 #[.pointer (some ⟨bm, 0, none⟩), .pointer (some ⟨bd, 0, none⟩)] .deferred) [botW]) w #[] := by
  have hname : (Try.f34.name == "runtime.NumGoroutine") = false := by kernel_rfl
  have h1 : ¬ Try.f34.name = "runtime.NumGoroutine" := by simpa using hname
  have h2 : ¬ Try.f34.body = none := by rw [show Try.f34.body = some bodyW from rfl]; simp
  simp [born, goW, stepG, unwind, callDeferred, invoke, callFunc, Try.func34, h1, h2, seen_none, GStep.after, G, botW]
theorem childSends (D : DataO nf c w0 bm bd s1 s2 N1 N2) (hO : OldO nf c w0 w) : SendsO Try.prog nf c 3 Vmsg NoFact ((N1 + N2 + 2) / 3) [] (born Try.prog (goW bm bd)) w o := by
  obtain ⟨nr, ih⟩ := sends_head D (rfl : N1 + N2 = N1 + N2) (N1 + N2)
  refine (sendsO_iff ..).2 ⟨nr + 501, ?_⟩
  have hseg : Seg Try.prog nf c false (fun g' w' o' => ∃ a' kn, g' = headW a' ∧ SlotsW a' c bm bd kn (N1 + N2) 0 ∧ NowW nf c w0 w' o' kn 0 0) 501 (born Try.prog (goW bm bd)) w o := by
    refine Seg.ctl rfl (fun w => born_step w) ?_
    rw [enter_atD _ Try.func34 (show Try.f34.body = some bodyW from rfl)]
    refine entryW D hO ?_ rfl ?_ ?_
    · simp [Try.ntmps34]
    · simp [Act.eval]
    · simp [Act.eval]
  refine hseg _ nr ?_
  rintro _ w1 o1 ⟨a1, kn, rfl, S1, W1⟩
  have := ih kn 0 0 0 a1 w1 o1 [] (by omega) (by omega) S1 W1
  exact this
end
end Go.Proofs.Ytjkfnjjkjhggfaa
set_option linter.unusedSimpArgs false
set_option linter.unusedVariables false
namespace Go.Proofs.Ytjkfnjjkjhggfaa
open Go.Conc Go.RowKit

noncomputable def bodyM : Code := Try.f16.body.getD .skip
noncomputable def loopM : Code := match bodyM with | .seq _ (.seq _ (.seq _ (.seq _ (.seq (.seq _ (.block _ (.loop y))) _)))) => y | _ => .skip
noncomputable def tailM : Code := match bodyM with | .seq _ (.seq _ (.seq _ (.seq _ (.seq _ r)))) => r | _ => .skip
noncomputable def ops5M : Array Oper := match loopM with | .seq (.region _ ops _) _ => ops | _ => #[]
noncomputable def restM : Code := match loopM with | .seq _ r => r | _ => .skip
structure SlotsM (a : Act) (c bm : Nat) (v : Value) : Prop where
  size : a.tmps.size = 17
  defers : a.defers = []
  t3 : a.eval (.tmp 3) = .pointer (some ⟨bm, 0, none⟩)
  t4 : a.eval (.tmp 4) = v
  t8 : a.eval (.tmp 8) = .chan (some c)
structure OutM (nf c : Nat) (w0 w : World) (o : Who) (v : Value) (n : Nat) : Prop where
  old : OldO nf c w0 w
  own : ∃ xs, OwnO nf true w o 32 2 v n xs
noncomputable abbrev recvM (cs : List Frame) (is : List Nat) (a : Act) : Goroutine := G ((base 16).at a [.inRegion ops5M is, .code restM, .inLoop loopM, .inBlock 0, .code tailM]) cs
section
variable {P : Program} {nf c : Nat} {n : Nat} {w : World} {o : Who} {b : Frame} {a : Act} {k : List Item} {cs : List Frame} {ops : Array Oper} {i : Nat} {rest : List Nat} {op : Oper}
/-- AT A RECEIVE. -/
theorem atRecvO_of {x : Operand} {ct E : TypeId} {dir : ChanDir} {z : Value} {Next : Goroutine → World → Who → Prop} (ho : ops[i]? = some op) (hw : Region.wanted op (yielded ops a.tmps) = true) (hk : b.kind ≠ .early) (hop : op.op = .recv ct x true)
    (ht : P.underlying ct = some (.chan dir E)) (hz : ∀ w, (zeroValue E).run P w = .ok z w) (hze : ∀ w, (zeroValue E).events P w #[] = #[]) (hx : a.eval x = .chan (some c))
    (next : ∀ w1 o1, RO nf c true w o w1 o1 → Next (G (b.at a (.inRegion ops (i :: rest) :: k)) cs) w1 o1) :
    AtRecvO P nf c z Next (G (b.at a (.inRegion ops (i :: rest) :: k)) cs) w o := by
  refine ⟨rfl, #[], ?_, by simp, fun w1 o1 r => next w1 o1 r⟩
  rw [stepG_comm (cases := #[rcase c z]) (blocking := true) (shape := .recv true) (w' := w) ho hw hk (by simp [execOp, hop, run_underlying ht, hz, hx, rcase])]
  have he : (execOp a.eval op).events P w #[] = #[] := by
    unfold execOp
    simp [hop, run_underlying ht, hz, hze]
  unfold listed
  rw [he]
  simp [seen, core_G]
end
section
variable {nf c bm n : Nat} {w0 w : World} {o : Who} {v x y : Value}
set_option maxRecDepth 100000 in
theorem recvd (hcn : c < nf) (cs : List Frame) {a : Act} (S : SlotsM a c bm v) (W : OutM nf c w0 w o v n) (h9 : a.eval (.tmp 9) = .tuple #[.agg #[x, y], .bool true]) (h1 : x.oneCell' = true ∧ y.oneCell' = true) (hs : n ≤ 1000000) :
    Seg Try.prog nf c true (fun g' w' o' => ∃ a' v', g' = recvM cs [0, 1] a' ∧ SlotsM a' c bm v' ∧ OutM nf c w0 w' o' v' (n + 1)) 500 (recvM cs [1] a) w o := by
  have e : recvM cs [1] a = recvM cs [1] a := rfl
  conv at e => rhs; simp only [recvM, ops5M, restM, loopM, bodyM, Try.f16, Option.getD_some]
  rw [e]
  clear e
  obtain ⟨xs, hO⟩ := W.own
  refine Seg.pu (Pu.extract (vs := #[.agg #[x, y], .bool true]) (v := .bool true) rfl (by simp [ev_put_ne, ev_put_eq, ev_const, sz_put, S.size, S.t3, S.t4, S.t8, h9]) rfl) rfl rfl (by decide) ?_
  simp only [List.getElem_toArray, List.getElem_cons_succ, List.getElem_cons_zero, ev_put_none]
  first
  | refine Seg.ctl rfl (fun _ => stepG_seq) ?_
  | refine Seg.ctl rfl (fun _ => stepG_region_end) ?_
  | (refine Seg.ctl rfl (fun _ => stepG_region) ?_; simp only [List.size_toArray, List.length_cons, List.length_nil, Nat.reduceAdd, Nat.zero_add, List.range, List.range.loop])
  | refine Seg.ctl rfl (fun _ => stepG_block) ?_
  | refine Seg.ctl rfl (fun _ => stepG_inBlock) ?_
  | refine Seg.ctl rfl (fun _ => stepG_ret') ?_
  | refine Seg.ctl rfl (fun _ => stepG_loop) ?_
  | refine Seg.ctl rfl (fun _ => stepG_inLoop) ?_
  | refine Seg.ctl rfl (fun _ => stepG_skip) ?_
  first
  | refine Seg.ctl rfl (fun _ => stepG_seq) ?_
  | refine Seg.ctl rfl (fun _ => stepG_region_end) ?_
  | (refine Seg.ctl rfl (fun _ => stepG_region) ?_; simp only [List.size_toArray, List.length_cons, List.length_nil, Nat.reduceAdd, Nat.zero_add, List.range, List.range.loop])
  | refine Seg.ctl rfl (fun _ => stepG_block) ?_
  | refine Seg.ctl rfl (fun _ => stepG_inBlock) ?_
  | refine Seg.ctl rfl (fun _ => stepG_ret') ?_
  | refine Seg.ctl rfl (fun _ => stepG_loop) ?_
  | refine Seg.ctl rfl (fun _ => stepG_inLoop) ?_
  | refine Seg.ctl rfl (fun _ => stepG_skip) ?_
  refine Seg.ctl rfl (fun _ => stepG_cond (t := true) (by simp [ev_put_ne, ev_put_eq, ev_const, sz_put, S.size, S.t3, S.t4, S.t8, h9])) ?_
  simp only [if_true]
  first
  | refine Seg.ctl rfl (fun _ => stepG_seq) ?_
  | refine Seg.ctl rfl (fun _ => stepG_region_end) ?_
  | (refine Seg.ctl rfl (fun _ => stepG_region) ?_; simp only [List.size_toArray, List.length_cons, List.length_nil, Nat.reduceAdd, Nat.zero_add, List.range, List.range.loop])
  | refine Seg.ctl rfl (fun _ => stepG_block) ?_
  | refine Seg.ctl rfl (fun _ => stepG_inBlock) ?_
  | refine Seg.ctl rfl (fun _ => stepG_ret') ?_
  | refine Seg.ctl rfl (fun _ => stepG_loop) ?_
  | refine Seg.ctl rfl (fun _ => stepG_inLoop) ?_
  | refine Seg.ctl rfl (fun _ => stepG_skip) ?_
  first
  | refine Seg.ctl rfl (fun _ => stepG_seq) ?_
  | refine Seg.ctl rfl (fun _ => stepG_region_end) ?_
  | (refine Seg.ctl rfl (fun _ => stepG_region) ?_; simp only [List.size_toArray, List.length_cons, List.length_nil, Nat.reduceAdd, Nat.zero_add, List.range, List.range.loop])
  | refine Seg.ctl rfl (fun _ => stepG_block) ?_
  | refine Seg.ctl rfl (fun _ => stepG_inBlock) ?_
  | refine Seg.ctl rfl (fun _ => stepG_ret') ?_
  | refine Seg.ctl rfl (fun _ => stepG_loop) ?_
  | refine Seg.ctl rfl (fun _ => stepG_inLoop) ?_
  | refine Seg.ctl rfl (fun _ => stepG_skip) ?_
  first
  | refine Seg.ctl rfl (fun _ => stepG_seq) ?_
  | refine Seg.ctl rfl (fun _ => stepG_region_end) ?_
  | (refine Seg.ctl rfl (fun _ => stepG_region) ?_; simp only [List.size_toArray, List.length_cons, List.length_nil, Nat.reduceAdd, Nat.zero_add, List.range, List.range.loop])
  | refine Seg.ctl rfl (fun _ => stepG_block) ?_
  | refine Seg.ctl rfl (fun _ => stepG_inBlock) ?_
  | refine Seg.ctl rfl (fun _ => stepG_ret') ?_
  | refine Seg.ctl rfl (fun _ => stepG_loop) ?_
  | refine Seg.ctl rfl (fun _ => stepG_inLoop) ?_
  | refine Seg.ctl rfl (fun _ => stepG_skip) ?_
  first
  | refine Seg.ctl rfl (fun _ => stepG_seq) ?_
  | refine Seg.ctl rfl (fun _ => stepG_region_end) ?_
  | (refine Seg.ctl rfl (fun _ => stepG_region) ?_; simp only [List.size_toArray, List.length_cons, List.length_nil, Nat.reduceAdd, Nat.zero_add, List.range, List.range.loop])
  | refine Seg.ctl rfl (fun _ => stepG_block) ?_
  | refine Seg.ctl rfl (fun _ => stepG_inBlock) ?_
  | refine Seg.ctl rfl (fun _ => stepG_ret') ?_
  | refine Seg.ctl rfl (fun _ => stepG_loop) ?_
  | refine Seg.ctl rfl (fun _ => stepG_inLoop) ?_
  | refine Seg.ctl rfl (fun _ => stepG_skip) ?_
  refine Seg.pu (Pu.extract (vs := #[.agg #[x, y], .bool true]) (v := .agg #[x, y]) rfl (by simp [ev_put_ne, ev_put_eq, ev_const, sz_put, S.size, S.t3, S.t4, S.t8, h9]) rfl) rfl rfl (by decide) ?_
  simp only [List.getElem_toArray, List.getElem_cons_succ, List.getElem_cons_zero, ev_put_none]
  refine Seg.new hcn W.old.size rfl rfl (by decide) (.cells #[.slice none 0 0, .slice none 0 0] 32) (fun g => .pointer (some ⟨g, 0, none⟩)) (fun w => ?_) (fun w => ?_) fun w1 o1 g5 r hg hm K => ?_
  · simp [go_sem, execOp, Instr.alloc, newVar, newRow, Value.cells]
  · simp [go_sem, execOp, Instr.alloc, newVar, newRow, Value.cells]
  have hO := hO.rx hcn r (by simp)
  have hold := W.old.rx r (by simp)
  have hn5 : nf ≤ g5 := Nat.le_trans W.old.size hg
  have hne : ∀ g, v.ownBlock = some g → some g ≠ some g5 := fun g e e' => by
    have := (World.ownsRow.lt (W.own.choose_spec).row g e).2
    cases e'; omega
  clear r
  simp only [List.getElem_toArray, List.getElem_cons_succ, List.getElem_cons_zero, ev_put_none]
  refine Seg.store (g := g5) (off := 0) (vs := [x, y]) hcn rfl rfl (by decide) rfl (by simp [ev_put_ne, ev_put_eq, ev_const, sz_put, S.size, S.t3, S.t4, S.t8]) (by simp [ev_put_ne, ev_put_eq, ev_const, sz_put, S.size, Value.cells]) Try.type32 rfl (by simp [h1]) K hn5 hm (by simp) fun w2 o2 r hm K => ?_
  replace K : Kn nf c true w2 o2 g5 (.cells #[x, y] 32) := K
  have hO := hO.rx hcn r hne
  have hold := hold.rx r (fun g e => by cases e; exact hn5)
  clear r
  simp only [List.getElem_toArray, List.getElem_cons_succ, List.getElem_cons_zero, ev_put_none]
  first
  | refine Seg.ctl rfl (fun _ => stepG_seq) ?_
  | refine Seg.ctl rfl (fun _ => stepG_region_end) ?_
  | (refine Seg.ctl rfl (fun _ => stepG_region) ?_; simp only [List.size_toArray, List.length_cons, List.length_nil, Nat.reduceAdd, Nat.zero_add, List.range, List.range.loop])
  | refine Seg.ctl rfl (fun _ => stepG_block) ?_
  | refine Seg.ctl rfl (fun _ => stepG_inBlock) ?_
  | refine Seg.ctl rfl (fun _ => stepG_ret') ?_
  | refine Seg.ctl rfl (fun _ => stepG_loop) ?_
  | refine Seg.ctl rfl (fun _ => stepG_inLoop) ?_
  | refine Seg.ctl rfl (fun _ => stepG_skip) ?_
  first
  | refine Seg.ctl rfl (fun _ => stepG_seq) ?_
  | refine Seg.ctl rfl (fun _ => stepG_region_end) ?_
  | (refine Seg.ctl rfl (fun _ => stepG_region) ?_; simp only [List.size_toArray, List.length_cons, List.length_nil, Nat.reduceAdd, Nat.zero_add, List.range, List.range.loop])
  | refine Seg.ctl rfl (fun _ => stepG_block) ?_
  | refine Seg.ctl rfl (fun _ => stepG_inBlock) ?_
  | refine Seg.ctl rfl (fun _ => stepG_ret') ?_
  | refine Seg.ctl rfl (fun _ => stepG_loop) ?_
  | refine Seg.ctl rfl (fun _ => stepG_inLoop) ?_
  | refine Seg.ctl rfl (fun _ => stepG_skip) ?_
  refine Seg.pu (Pu.move (v := v) rfl (by simp [ev_put_ne, ev_put_eq, ev_const, sz_put, S.size, S.t3, S.t4, S.t8])) rfl rfl (by decide) ?_
  simp only [List.getElem_toArray, List.getElem_cons_succ, List.getElem_cons_zero, ev_put_none]
  refine Seg.load hcn (A := ⟨g5, 0, none⟩) (vs := [x, y]) rfl rfl (by decide) rfl (by simp [ev_put_ne, ev_put_eq, ev_const, sz_put, S.size, S.t3, S.t4, S.t8]) (.agg Try.underlying32 rfl Try.type32 rfl (by simp)) (K.cks rfl) ?_
  simp only [List.getElem_toArray, List.getElem_cons_succ, List.getElem_cons_zero, ev_put_none]
  refine Seg.new hcn hold.size rfl rfl (by decide) (.cells #[x, y] 32) (fun g => .slice (some ⟨g, 0, none⟩) 1 1) (fun w => (build1_law (x := .tmp 13) (v := .agg #[x, y]) rfl (by simp [ev_put_ne, ev_put_eq, ev_const, sz_put, S.size, S.t3, S.t4, S.t8]) Try.underlying35 Try.type32 rfl rfl rfl (by decide) (by decide) w).1) (fun w => (build1_law (x := .tmp 13) (v := .agg #[x, y]) rfl (by simp [ev_put_ne, ev_put_eq, ev_const, sz_put, S.size, S.t3, S.t4, S.t8]) Try.underlying35 Try.type32 rfl rfl rfl (by decide) (by decide) w).2) fun w3 o3 gb r hg hm K => ?_
  have hO := hO.rx hcn r (by simp)
  have hold := hold.rx r (by simp)
  clear r
  simp only [List.getElem_toArray, List.getElem_cons_succ, List.getElem_cons_zero, ev_put_none]
  refine Seg.append hcn hold.size _ _ _ rfl rfl (by decide) rfl 32 _ _ 2 Try.underlying35 Try.type32 rfl rfl rfl (by decide) (v := v) (ad := ⟨gb, 0, none⟩) (m := 1) (cp := 1) (news := [x, y]) (by simp [ev_put_ne, ev_put_eq, ev_const, sz_put, S.size, S.t3, S.t4, S.t8]) hO (by simp [ev_put_ne, ev_put_eq, ev_const, sz_put, S.size, S.t3, S.t4, S.t8]) rfl (K.cks rfl) (by simp [h1]) (by simp only [maxLen]; omega) (by show (n + 1) * 48 ≤ _; omega) (by decide) fun v' w4 o4 r hO' hfr => ?_
  have hold := hold.rx r (fun g e => (World.ownsRow.lt hO.row g e).1)
  clear r hfr
  simp only [List.getElem_toArray, List.getElem_cons_succ, List.getElem_cons_zero, ev_put_none]
  refine Seg.pu (Pu.assign (v := v') rfl (by simp [ev_put_ne, ev_put_eq, ev_const, sz_put, S.size, S.t3, S.t4, S.t8])) rfl rfl (by decide) ?_
  simp only [List.getElem_toArray, List.getElem_cons_succ, List.getElem_cons_zero, ev_put_none]
  first
  | refine Seg.ctl rfl (fun _ => stepG_seq) ?_
  | refine Seg.ctl rfl (fun _ => stepG_region_end) ?_
  | (refine Seg.ctl rfl (fun _ => stepG_region) ?_; simp only [List.size_toArray, List.length_cons, List.length_nil, Nat.reduceAdd, Nat.zero_add, List.range, List.range.loop])
  | refine Seg.ctl rfl (fun _ => stepG_block) ?_
  | refine Seg.ctl rfl (fun _ => stepG_inBlock) ?_
  | refine Seg.ctl rfl (fun _ => stepG_ret') ?_
  | refine Seg.ctl rfl (fun _ => stepG_loop) ?_
  | refine Seg.ctl rfl (fun _ => stepG_inLoop) ?_
  | refine Seg.ctl rfl (fun _ => stepG_skip) ?_
  first
  | refine Seg.ctl rfl (fun _ => stepG_seq) ?_
  | refine Seg.ctl rfl (fun _ => stepG_region_end) ?_
  | (refine Seg.ctl rfl (fun _ => stepG_region) ?_; simp only [List.size_toArray, List.length_cons, List.length_nil, Nat.reduceAdd, Nat.zero_add, List.range, List.range.loop])
  | refine Seg.ctl rfl (fun _ => stepG_block) ?_
  | refine Seg.ctl rfl (fun _ => stepG_inBlock) ?_
  | refine Seg.ctl rfl (fun _ => stepG_ret') ?_
  | refine Seg.ctl rfl (fun _ => stepG_loop) ?_
  | refine Seg.ctl rfl (fun _ => stepG_inLoop) ?_
  | refine Seg.ctl rfl (fun _ => stepG_skip) ?_
  refine Seg.ctl rfl (fun _ => stepG_inLoop) ?_
  first
  | refine Seg.ctl rfl (fun _ => stepG_seq) ?_
  | refine Seg.ctl rfl (fun _ => stepG_region_end) ?_
  | (refine Seg.ctl rfl (fun _ => stepG_region) ?_; simp only [List.size_toArray, List.length_cons, List.length_nil, Nat.reduceAdd, Nat.zero_add, List.range, List.range.loop])
  | refine Seg.ctl rfl (fun _ => stepG_block) ?_
  | refine Seg.ctl rfl (fun _ => stepG_inBlock) ?_
  | refine Seg.ctl rfl (fun _ => stepG_ret') ?_
  | refine Seg.ctl rfl (fun _ => stepG_loop) ?_
  | refine Seg.ctl rfl (fun _ => stepG_inLoop) ?_
  | refine Seg.ctl rfl (fun _ => stepG_skip) ?_
  first
  | refine Seg.ctl rfl (fun _ => stepG_seq) ?_
  | refine Seg.ctl rfl (fun _ => stepG_region_end) ?_
  | (refine Seg.ctl rfl (fun _ => stepG_region) ?_; simp only [List.size_toArray, List.length_cons, List.length_nil, Nat.reduceAdd, Nat.zero_add, List.range, List.range.loop])
  | refine Seg.ctl rfl (fun _ => stepG_block) ?_
  | refine Seg.ctl rfl (fun _ => stepG_inBlock) ?_
  | refine Seg.ctl rfl (fun _ => stepG_ret') ?_
  | refine Seg.ctl rfl (fun _ => stepG_loop) ?_
  | refine Seg.ctl rfl (fun _ => stepG_inLoop) ?_
  | refine Seg.ctl rfl (fun _ => stepG_skip) ?_
  exact Seg.done ⟨_, v', rfl, ⟨by simp [sz_put, S.size], by simpa [df_put] using S.defers, (by simp [ev_put_ne, ev_put_eq, ev_const, sz_put, S.size, S.t3, S.t4, S.t8]), (by simp [ev_put_ne, ev_put_eq, ev_const, sz_put, S.size, S.t3, S.t4, S.t8]), (by simp [ev_put_ne, ev_put_eq, ev_const, sz_put, S.size, S.t3, S.t4, S.t8])⟩, hold, _, hO'⟩
end
end Go.Proofs.Ytjkfnjjkjhggfaa
