/- The worker of impl.DeltaCut, whole: born at the go statement it sends so many messages, and closes. The caller in impl.DeltaCut: it receives, and appends. The caller in impl.DeltaCut: what it receives; behind the close: steps that turn nothing. -/
import Derived.Test.YtjkfnjjkjhggfaaZ30
import Derived.Conc.Own5
set_option linter.unusedSimpArgs false
set_option linter.unusedVariables false
namespace Go.Proofs.Ytjkfnjjkjhggfaa
open Go.Conc Go.RowKit

section
variable {nf c bm bd N1 N2 : Nat} {w0 w : World} {o : Who} {s1 s2 : Value} {Ds : List Rg} {Ls : List Rt}
/-- What the go statement starts. -/
def goW (bm bd : Nat) : Deferred := { target := .fn (.func 34) #[.pointer (some ⟨bm, 0, none⟩), .pointer (some ⟨bd, 0, none⟩)], args := #[] }
theorem born_step (w : World) : stepG Try.prog false (born Try.prog (goW bm bd)) w = .go (G (Frame.enter Try.prog 34 #[.pointer (some ⟨bm, 0, none⟩), .pointer (some ⟨bd, 0, none⟩)] .deferred) [botW]) w #[] := by
  have hname : (Try.f34.name == "runtime.NumGoroutine") = false := by kernel_rfl
  have h1 : ¬ Try.f34.name = "runtime.NumGoroutine" := by simpa using hname
  have h2 : ¬ Try.f34.body = none := by rw [show Try.f34.body = some bodyW from rfl]; simp
  simp [born, goW, stepG, unwind, callDeferred, invoke, callFunc, Try.func34, h1, h2, seen_none, GStep.after, G, botW]
theorem childSends (D : DataO nf c w0 bm bd s1 s2 N1 N2 Ds Ls) (hO : OldO nf c w0 w) : SendsO Try.prog nf c 3 Vmsg (FactC nf c Ds Ls) ((N1 + N2 + 2) / 3) [] (born Try.prog (goW bm bd)) w o := by
  obtain ⟨nr, ih⟩ := sends_head D (rfl : N1 + N2 = N1 + N2) (N1 + N2)
  refine (sendsO_iff ..).2 ⟨nr + 501, ?_⟩
  have hseg : Seg Try.prog nf c false (fun g' w' o' => ∃ a' kn, g' = headW a' ∧ SlotsW a' c bm bd kn (N1 + N2) 0 ∧ NowW nf c w0 w' o' kn 0 0 (Cnt Ds Ls [] 0)) 501 (born Try.prog (goW bm bd)) w o := by
    refine Seg.ctl rfl (fun w => born_step w) ?_
    rw [enter_atD _ Try.func34 (show Try.f34.body = some bodyW from rfl)]
    refine entryW D hO ?_ rfl ?_ ?_
    · simp [Try.ntmps34]
    · simp [Act.eval]
    · simp [Act.eval]
  refine hseg _ nr ?_
  rintro _ w1 o1 ⟨a1, kn, rfl, S1, W1⟩
  have := ih kn 0 0 0 a1 w1 o1 [] (by omega) (by omega) rfl S1 W1
  exact this
end
end Go.Proofs.Ytjkfnjjkjhggfaa
set_option linter.unusedSimpArgs false
set_option linter.unusedVariables false
namespace Go.Proofs.Ytjkfnjjkjhggfaa
open Go.Conc Go.RowKit

noncomputable def bodyM : Code := Try.f16.body.getD .skip
noncomputable def loopM : Code := match bodyM with | .seq _ (.seq _ (.seq _ (.seq _ (.seq (.seq _ (.block _ (.loop y))) _)))) => y | _ => .skip
noncomputable def tailM : Code := match bodyM with | .seq _ (.seq _ (.seq _ (.seq _ (.seq _ r)))) => r | _ => .skip
noncomputable def ops5M : Array Oper := match loopM with | .seq (.region _ ops _) _ => ops | _ => #[]
noncomputable def restM : Code := match loopM with | .seq _ r => r | _ => .skip
structure SlotsM (a : Act) (c bm : Nat) (v : Value) : Prop where
  size : a.tmps.size = 17
  defers : a.defers = []
  t3 : a.eval (.tmp 3) = .pointer (some ⟨bm, 0, none⟩)
  t4 : a.eval (.tmp 4) = v
  t8 : a.eval (.tmp 8) = .chan (some c)
structure OutM (nf c : Nat) (w0 w : World) (o : Who) (v : Value) (n : Nat) (xs : List Value) : Prop where
  old : OldO nf c w0 w
  own : OwnO nf true w o 32 2 v n xs
noncomputable abbrev recvM (cs : List Frame) (is : List Nat) (a : Act) : Goroutine := G ((base 16).at a [.inRegion ops5M is, .code restM, .inLoop loopM, .inBlock 0, .code tailM]) cs
section
variable {P : Program} {nf c : Nat} {n : Nat} {w : World} {o : Who} {b : Frame} {a : Act} {k : List Item} {cs : List Frame} {ops : Array Oper} {i : Nat} {rest : List Nat} {op : Oper}
/-- AT A RECEIVE. -/
theorem atRecvO_of {x : Operand} {ct E : TypeId} {dir : ChanDir} {z : Value} {Next : Goroutine → World → Who → Prop} (ho : ops[i]? = some op) (hw : Region.wanted op (yielded ops a.tmps) = true) (hk : b.kind ≠ .early) (hop : op.op = .recv ct x true)
    (ht : P.underlying ct = some (.chan dir E)) (hz : ∀ w, (zeroValue E).run P w = .ok z w) (hze : ∀ w, (zeroValue E).events P w #[] = #[]) (hx : a.eval x = .chan (some c))
    (next : ∀ w1 o1, RO nf c true w o w1 o1 → Next (G (b.at a (.inRegion ops (i :: rest) :: k)) cs) w1 o1) :
    AtRecvO P nf c z Next (G (b.at a (.inRegion ops (i :: rest) :: k)) cs) w o := by
  refine ⟨rfl, #[], ?_, by simp, fun w1 o1 r => next w1 o1 r⟩
  rw [stepG_comm (cases := #[rcase c z]) (blocking := true) (shape := .recv true) (w' := w) ho hw hk (by simp [execOp, hop, run_underlying ht, hz, hx, rcase])]
  have he : (execOp a.eval op).events P w #[] = #[] := by
    unfold execOp
    simp [hop, run_underlying ht, hz, hze]
  unfold listed
  rw [he]
  simp [seen, core_G]
end
section
variable {nf c bm n : Nat} {w0 w : World} {o : Who} {v x y : Value} {xs : List Value}
set_option maxRecDepth 100000 in
theorem recvd (hcn : c < nf) (cs : List Frame) {a : Act} (S : SlotsM a c bm v) (W : OutM nf c w0 w o v n xs) (h9 : a.eval (.tmp 9) = .tuple #[.agg #[x, y], .bool true]) (h1 : x.oneCell' = true ∧ y.oneCell' = true) (hs : n ≤ 1000000) :
    Seg Try.prog nf c true (fun g' w' o' => ∃ a' v', g' = recvM cs [0, 1] a' ∧ SlotsM a' c bm v' ∧ OutM nf c w0 w' o' v' (n + 1) (xs ++ [x, y])) 500 (recvM cs [1] a) w o := by
  have e : recvM cs [1] a = recvM cs [1] a := rfl
  conv at e => rhs; simp only [recvM, ops5M, restM, loopM, bodyM, Try.f16, Option.getD_some]
  rw [e]
  clear e
  have hO := W.own
  refine Seg.pu (Pu.extract (vs := #[.agg #[x, y], .bool true]) (v := .bool true) rfl (by simp [ev_put_ne, ev_put_eq, ev_const, sz_put, S.size, S.t3, S.t4, S.t8, h9]) rfl) rfl rfl (by decide) ?_
  simp only [List.getElem_toArray, List.getElem_cons_succ, List.getElem_cons_zero, ev_put_none]
  first
  | refine Seg.ctl rfl (fun _ => stepG_seq) ?_
  | refine Seg.ctl rfl (fun _ => stepG_region_end) ?_
  | (refine Seg.ctl rfl (fun _ => stepG_region) ?_; simp only [List.size_toArray, List.length_cons, List.length_nil, Nat.reduceAdd, Nat.zero_add, List.range, List.range.loop])
  | refine Seg.ctl rfl (fun _ => stepG_block) ?_
  | refine Seg.ctl rfl (fun _ => stepG_inBlock) ?_
  | refine Seg.ctl rfl (fun _ => stepG_ret') ?_
  | refine Seg.ctl rfl (fun _ => stepG_loop) ?_
  | refine Seg.ctl rfl (fun _ => stepG_inLoop) ?_
  | refine Seg.ctl rfl (fun _ => stepG_skip) ?_
  first
  | refine Seg.ctl rfl (fun _ => stepG_seq) ?_
  | refine Seg.ctl rfl (fun _ => stepG_region_end) ?_
  | (refine Seg.ctl rfl (fun _ => stepG_region) ?_; simp only [List.size_toArray, List.length_cons, List.length_nil, Nat.reduceAdd, Nat.zero_add, List.range, List.range.loop])
  | refine Seg.ctl rfl (fun _ => stepG_block) ?_
  | refine Seg.ctl rfl (fun _ => stepG_inBlock) ?_
  | refine Seg.ctl rfl (fun _ => stepG_ret') ?_
  | refine Seg.ctl rfl (fun _ => stepG_loop) ?_
  | refine Seg.ctl rfl (fun _ => stepG_inLoop) ?_
  | refine Seg.ctl rfl (fun _ => stepG_skip) ?_
  refine Seg.ctl rfl (fun _ => stepG_cond (t := true) (by simp [ev_put_ne, ev_put_eq, ev_const, sz_put, S.size, S.t3, S.t4, S.t8, h9])) ?_
  simp only [if_true]
  first
  | refine Seg.ctl rfl (fun _ => stepG_seq) ?_
  | refine Seg.ctl rfl (fun _ => stepG_region_end) ?_
  | (refine Seg.ctl rfl (fun _ => stepG_region) ?_; simp only [List.size_toArray, List.length_cons, List.length_nil, Nat.reduceAdd, Nat.zero_add, List.range, List.range.loop])
  | refine Seg.ctl rfl (fun _ => stepG_block) ?_
  | refine Seg.ctl rfl (fun _ => stepG_inBlock) ?_
  | refine Seg.ctl rfl (fun _ => stepG_ret') ?_
  | refine Seg.ctl rfl (fun _ => stepG_loop) ?_
  | refine Seg.ctl rfl (fun _ => stepG_inLoop) ?_
  | refine Seg.ctl rfl (fun _ => stepG_skip) ?_
  first
  | refine Seg.ctl rfl (fun _ => stepG_seq) ?_
  | refine Seg.ctl rfl (fun _ => stepG_region_end) ?_
  | (refine Seg.ctl rfl (fun _ => stepG_region) ?_; simp only [List.size_toArray, List.length_cons, List.length_nil, Nat.reduceAdd, Nat.zero_add, List.range, List.range.loop])
  | refine Seg.ctl rfl (fun _ => stepG_block) ?_
  | refine Seg.ctl rfl (fun _ => stepG_inBlock) ?_
  | refine Seg.ctl rfl (fun _ => stepG_ret') ?_
  | refine Seg.ctl rfl (fun _ => stepG_loop) ?_
  | refine Seg.ctl rfl (fun _ => stepG_inLoop) ?_
  | refine Seg.ctl rfl (fun _ => stepG_skip) ?_
  first
  | refine Seg.ctl rfl (fun _ => stepG_seq) ?_
  | refine Seg.ctl rfl (fun _ => stepG_region_end) ?_
  | (refine Seg.ctl rfl (fun _ => stepG_region) ?_; simp only [List.size_toArray, List.length_cons, List.length_nil, Nat.reduceAdd, Nat.zero_add, List.range, List.range.loop])
  | refine Seg.ctl rfl (fun _ => stepG_block) ?_
  | refine Seg.ctl rfl (fun _ => stepG_inBlock) ?_
  | refine Seg.ctl rfl (fun _ => stepG_ret') ?_
  | refine Seg.ctl rfl (fun _ => stepG_loop) ?_
  | refine Seg.ctl rfl (fun _ => stepG_inLoop) ?_
  | refine Seg.ctl rfl (fun _ => stepG_skip) ?_
  first
  | refine Seg.ctl rfl (fun _ => stepG_seq) ?_
  | refine Seg.ctl rfl (fun _ => stepG_region_end) ?_
  | (refine Seg.ctl rfl (fun _ => stepG_region) ?_; simp only [List.size_toArray, List.length_cons, List.length_nil, Nat.reduceAdd, Nat.zero_add, List.range, List.range.loop])
  | refine Seg.ctl rfl (fun _ => stepG_block) ?_
  | refine Seg.ctl rfl (fun _ => stepG_inBlock) ?_
  | refine Seg.ctl rfl (fun _ => stepG_ret') ?_
  | refine Seg.ctl rfl (fun _ => stepG_loop) ?_
  | refine Seg.ctl rfl (fun _ => stepG_inLoop) ?_
  | refine Seg.ctl rfl (fun _ => stepG_skip) ?_
  refine Seg.pu (Pu.extract (vs := #[.agg #[x, y], .bool true]) (v := .agg #[x, y]) rfl (by simp [ev_put_ne, ev_put_eq, ev_const, sz_put, S.size, S.t3, S.t4, S.t8, h9]) rfl) rfl rfl (by decide) ?_
  simp only [List.getElem_toArray, List.getElem_cons_succ, List.getElem_cons_zero, ev_put_none]
  refine Seg.new hcn W.old.size rfl rfl (by decide) (.cells #[.slice none 0 0, .slice none 0 0] 32) (fun g => .pointer (some ⟨g, 0, none⟩)) (fun w => ?_) (fun w => ?_) fun w1 o1 g5 r hg hm K => ?_
  · simp [go_sem, execOp, Instr.alloc, newVar, newRow, Value.cells]
  · simp [go_sem, execOp, Instr.alloc, newVar, newRow, Value.cells]
  have hO := hO.rx hcn r (by simp)
  have hold := W.old.rx r (by simp)
  have hn5 : nf ≤ g5 := Nat.le_trans W.old.size hg
  have hne : ∀ g, v.ownBlock = some g → some g ≠ some g5 := fun g e e' => by
    have := (World.ownsRow.lt W.own.row g e).2
    cases e'; omega
  clear r
  simp only [List.getElem_toArray, List.getElem_cons_succ, List.getElem_cons_zero, ev_put_none]
  refine Seg.store (g := g5) (off := 0) (vs := [x, y]) hcn rfl rfl (by decide) rfl (by simp [ev_put_ne, ev_put_eq, ev_const, sz_put, S.size, S.t3, S.t4, S.t8]) (by simp [ev_put_ne, ev_put_eq, ev_const, sz_put, S.size, Value.cells]) Try.type32 rfl (by simp [h1]) K hn5 hm (by simp) fun w2 o2 r hm K => ?_
  replace K : Kn nf c true w2 o2 g5 (.cells #[x, y] 32) := K
  have hO := hO.rx hcn r hne
  have hold := hold.rx r (fun g e => by cases e; exact hn5)
  clear r
  simp only [List.getElem_toArray, List.getElem_cons_succ, List.getElem_cons_zero, ev_put_none]
  first
  | refine Seg.ctl rfl (fun _ => stepG_seq) ?_
  | refine Seg.ctl rfl (fun _ => stepG_region_end) ?_
  | (refine Seg.ctl rfl (fun _ => stepG_region) ?_; simp only [List.size_toArray, List.length_cons, List.length_nil, Nat.reduceAdd, Nat.zero_add, List.range, List.range.loop])
  | refine Seg.ctl rfl (fun _ => stepG_block) ?_
  | refine Seg.ctl rfl (fun _ => stepG_inBlock) ?_
  | refine Seg.ctl rfl (fun _ => stepG_ret') ?_
  | refine Seg.ctl rfl (fun _ => stepG_loop) ?_
  | refine Seg.ctl rfl (fun _ => stepG_inLoop) ?_
  | refine Seg.ctl rfl (fun _ => stepG_skip) ?_
  first
  | refine Seg.ctl rfl (fun _ => stepG_seq) ?_
  | refine Seg.ctl rfl (fun _ => stepG_region_end) ?_
  | (refine Seg.ctl rfl (fun _ => stepG_region) ?_; simp only [List.size_toArray, List.length_cons, List.length_nil, Nat.reduceAdd, Nat.zero_add, List.range, List.range.loop])
  | refine Seg.ctl rfl (fun _ => stepG_block) ?_
  | refine Seg.ctl rfl (fun _ => stepG_inBlock) ?_
  | refine Seg.ctl rfl (fun _ => stepG_ret') ?_
  | refine Seg.ctl rfl (fun _ => stepG_loop) ?_
  | refine Seg.ctl rfl (fun _ => stepG_inLoop) ?_
  | refine Seg.ctl rfl (fun _ => stepG_skip) ?_
  refine Seg.pu (Pu.move (v := v) rfl (by simp [ev_put_ne, ev_put_eq, ev_const, sz_put, S.size, S.t3, S.t4, S.t8])) rfl rfl (by decide) ?_
  simp only [List.getElem_toArray, List.getElem_cons_succ, List.getElem_cons_zero, ev_put_none]
  refine Seg.load hcn (A := ⟨g5, 0, none⟩) (vs := [x, y]) rfl rfl (by decide) rfl (by simp [ev_put_ne, ev_put_eq, ev_const, sz_put, S.size, S.t3, S.t4, S.t8]) (.agg Try.underlying32 rfl Try.type32 rfl (by simp)) (K.cks rfl) ?_
  simp only [List.getElem_toArray, List.getElem_cons_succ, List.getElem_cons_zero, ev_put_none]
  refine Seg.new hcn hold.size rfl rfl (by decide) (.cells #[x, y] 32) (fun g => .slice (some ⟨g, 0, none⟩) 1 1) (fun w => (build1_law (x := .tmp 13) (v := .agg #[x, y]) rfl (by simp [ev_put_ne, ev_put_eq, ev_const, sz_put, S.size, S.t3, S.t4, S.t8]) Try.underlying35 Try.type32 rfl rfl rfl (by decide) (by decide) w).1) (fun w => (build1_law (x := .tmp 13) (v := .agg #[x, y]) rfl (by simp [ev_put_ne, ev_put_eq, ev_const, sz_put, S.size, S.t3, S.t4, S.t8]) Try.underlying35 Try.type32 rfl rfl rfl (by decide) (by decide) w).2) fun w3 o3 gb r hg hm K => ?_
  have hO := hO.rx hcn r (by simp)
  have hold := hold.rx r (by simp)
  clear r
  simp only [List.getElem_toArray, List.getElem_cons_succ, List.getElem_cons_zero, ev_put_none]
  refine Seg.append hcn hold.size _ _ _ rfl rfl (by decide) rfl 32 _ _ 2 Try.underlying35 Try.type32 rfl rfl rfl (by decide) (v := v) (ad := ⟨gb, 0, none⟩) (m := 1) (cp := 1) (news := [x, y]) (by simp [ev_put_ne, ev_put_eq, ev_const, sz_put, S.size, S.t3, S.t4, S.t8]) hO (by simp [ev_put_ne, ev_put_eq, ev_const, sz_put, S.size, S.t3, S.t4, S.t8]) rfl (K.cks rfl) (by simp [h1]) (by simp only [maxLen]; omega) (by show (n + 1) * 48 ≤ _; omega) (by decide) fun v' w4 o4 r hO' hfr => ?_
  have hold := hold.rx r (fun g e => (World.ownsRow.lt hO.row g e).1)
  clear r hfr
  simp only [List.getElem_toArray, List.getElem_cons_succ, List.getElem_cons_zero, ev_put_none]
  refine Seg.pu (Pu.assign (v := v') rfl (by simp [ev_put_ne, ev_put_eq, ev_const, sz_put, S.size, S.t3, S.t4, S.t8])) rfl rfl (by decide) ?_
  simp only [List.getElem_toArray, List.getElem_cons_succ, List.getElem_cons_zero, ev_put_none]
  first
  | refine Seg.ctl rfl (fun _ => stepG_seq) ?_
  | refine Seg.ctl rfl (fun _ => stepG_region_end) ?_
  | (refine Seg.ctl rfl (fun _ => stepG_region) ?_; simp only [List.size_toArray, List.length_cons, List.length_nil, Nat.reduceAdd, Nat.zero_add, List.range, List.range.loop])
  | refine Seg.ctl rfl (fun _ => stepG_block) ?_
  | refine Seg.ctl rfl (fun _ => stepG_inBlock) ?_
  | refine Seg.ctl rfl (fun _ => stepG_ret') ?_
  | refine Seg.ctl rfl (fun _ => stepG_loop) ?_
  | refine Seg.ctl rfl (fun _ => stepG_inLoop) ?_
  | refine Seg.ctl rfl (fun _ => stepG_skip) ?_
  first
  | refine Seg.ctl rfl (fun _ => stepG_seq) ?_
  | refine Seg.ctl rfl (fun _ => stepG_region_end) ?_
  | (refine Seg.ctl rfl (fun _ => stepG_region) ?_; simp only [List.size_toArray, List.length_cons, List.length_nil, Nat.reduceAdd, Nat.zero_add, List.range, List.range.loop])
  | refine Seg.ctl rfl (fun _ => stepG_block) ?_
  | refine Seg.ctl rfl (fun _ => stepG_inBlock) ?_
  | refine Seg.ctl rfl (fun _ => stepG_ret') ?_
  | refine Seg.ctl rfl (fun _ => stepG_loop) ?_
  | refine Seg.ctl rfl (fun _ => stepG_inLoop) ?_
  | refine Seg.ctl rfl (fun _ => stepG_skip) ?_
  refine Seg.ctl rfl (fun _ => stepG_inLoop) ?_
  first
  | refine Seg.ctl rfl (fun _ => stepG_seq) ?_
  | refine Seg.ctl rfl (fun _ => stepG_region_end) ?_
  | (refine Seg.ctl rfl (fun _ => stepG_region) ?_; simp only [List.size_toArray, List.length_cons, List.length_nil, Nat.reduceAdd, Nat.zero_add, List.range, List.range.loop])
  | refine Seg.ctl rfl (fun _ => stepG_block) ?_
  | refine Seg.ctl rfl (fun _ => stepG_inBlock) ?_
  | refine Seg.ctl rfl (fun _ => stepG_ret') ?_
  | refine Seg.ctl rfl (fun _ => stepG_loop) ?_
  | refine Seg.ctl rfl (fun _ => stepG_inLoop) ?_
  | refine Seg.ctl rfl (fun _ => stepG_skip) ?_
  first
  | refine Seg.ctl rfl (fun _ => stepG_seq) ?_
  | refine Seg.ctl rfl (fun _ => stepG_region_end) ?_
  | (refine Seg.ctl rfl (fun _ => stepG_region) ?_; simp only [List.size_toArray, List.length_cons, List.length_nil, Nat.reduceAdd, Nat.zero_add, List.range, List.range.loop])
  | refine Seg.ctl rfl (fun _ => stepG_block) ?_
  | refine Seg.ctl rfl (fun _ => stepG_inBlock) ?_
  | refine Seg.ctl rfl (fun _ => stepG_ret') ?_
  | refine Seg.ctl rfl (fun _ => stepG_loop) ?_
  | refine Seg.ctl rfl (fun _ => stepG_inLoop) ?_
  | refine Seg.ctl rfl (fun _ => stepG_skip) ?_
  exact Seg.done ⟨_, v', rfl, ⟨by simp [sz_put, S.size], by simpa [df_put] using S.defers, (by simp [ev_put_ne, ev_put_eq, ev_const, sz_put, S.size, S.t3, S.t4, S.t8]), (by simp [ev_put_ne, ev_put_eq, ev_const, sz_put, S.size, S.t3, S.t4, S.t8]), (by simp [ev_put_ne, ev_put_eq, ev_const, sz_put, S.size, S.t3, S.t4, S.t8])⟩, hold, hO'⟩
end
end Go.Proofs.Ytjkfnjjkjhggfaa
set_option linter.unusedSimpArgs false
set_option linter.unusedVariables false
namespace Go.Proofs.Ytjkfnjjkjhggfaa
open Go.Conc Go.RowKit

theorem zero_run (w : World) : (zeroValue 32).run Try.prog w = .ok (.agg #[.slice none 0 0, .slice none 0 0]) w := Try.zeroValue32 w
theorem zero_events (w : World) : (zeroValue 32).events Try.prog w #[] = #[] := by kernel_rfl
/-- What is received behind the close. -/
abbrev zM : Value := .agg #[.slice none 0 0, .slice none 0 0]
section
variable {nf c bm N : Nat} {w0 : World} {Post : Value → World → Prop} {cs : List Frame}
theorem served_recvM {a : Act} {v : Value} : Conc.served (recvM cs [0, 1] a) v = recvM cs [1] (a.put (some 9) v) := by
  rw [served_G]; rfl
theorem atRecv5 {a : Act} {w : World} {o : Who} {Next : Goroutine → World → Who → Prop} (hx : a.eval (.tmp 8) = .chan (some c)) (next : ∀ w1 o1, RO nf c true w o w1 o1 → Next (recvM cs [0, 1] a) w1 o1) : AtRecvO Try.prog nf c zM Next (recvM cs [0, 1] a) w o :=
  atRecvO_of (by rfl) (by rfl) (by decide) (by rfl) Try.underlying60 zero_run zero_events hx next
/-- The cells of what was received. -/
def cellsM (got : List Value) : List Value := got.flatMap fun m => m.cells.toList
theorem stopR_head {Fact : List Value → World → Who → Prop} (hcn : c < nf) (hN : N ≤ 1000000) (htail : ∀ a v w o got, SlotsM a c bm v → OutM nf c w0 w o v N (cellsM got) → a.eval (.tmp 9) = .tuple #[zM, .bool false] → Fact got w o → RetO Try.prog Post (recvM cs [1] a) w) :
    ∀ (ks n : Nat) (got : List Value) (a : Act) (v : Value) (w : World) (o : Who), n + ks = N → SlotsM a c bm v → OutM nf c w0 w o v n (cellsM got) → StopR Try.prog nf c zM Vmsg Fact Post ks got (recvM cs [0, 1] a) w o := by
  have put9 : ∀ {a : Act} {v u : Value}, SlotsM a c bm v → SlotsM (a.put (some 9) u) c bm v ∧ (a.put (some 9) u).eval (.tmp 9) = u := fun S => ⟨⟨by simp [sz_put, S.size], by simpa [df_put] using S.defers, (by simp [ev_put_ne, ev_put_eq, ev_const, sz_put, S.size, S.t3, S.t4, S.t8]), (by simp [ev_put_ne, ev_put_eq, ev_const, sz_put, S.size, S.t3, S.t4, S.t8]), (by simp [ev_put_ne, ev_put_eq, ev_const, sz_put, S.size, S.t3, S.t4, S.t8])⟩, (by simp [ev_put_ne, ev_put_eq, ev_const, sz_put, S.size, S.t3, S.t4, S.t8])⟩
  have rel : ∀ {w o w1 o1 v n xs}, OutM nf c w0 w o v n xs → RO nf c true w o w1 o1 → OutM nf c w0 w1 o1 v n xs := fun W r => ⟨W.old.ro r, W.own.rx hcn (r.rx none) (by simp)⟩
  intro ks
  induction ks with
  | zero =>
    intro n got a v w o hk S W
    unfold StopR
    refine atRecv5 S.t8 fun w1 o1 r => ?_
    intro hF
    have h := served_recvM (cs := cs) (a := a) (v := .tuple #[zM, .bool false])
    obtain ⟨S9, h9⟩ := put9 (u := .tuple #[zM, .bool false]) S
    have : n = N := by omega
    subst this
    have := htail _ v w1 o1 got S9 (rel W r) h9 hF
    rw [← h] at this
    exact this
  | succ ks ih =>
    intro n got a v w o hk S W
    unfold StopR
    refine atRecv5 S.t8 fun w1 o1 r => ?_
    rintro u ⟨a1, n1, c1, a2, n2, c2, rfl⟩
    have h := served_recvM (cs := cs) (a := a) (v := .tuple #[.agg #[.slice a1 n1 c1, .slice a2 n2 c2], .bool true])
    obtain ⟨S9, h9⟩ := put9 (u := .tuple #[.agg #[.slice a1 n1 c1, .slice a2 n2 c2], .bool true]) S
    refine (recvsO_iff ..).2 ⟨0 + 500, ?_⟩
    have hg : GoesO Try.prog nf c true (StopR Try.prog nf c zM Vmsg Fact Post ks (got ++ [.agg #[.slice a1 n1 c1, .slice a2 n2 c2]])) (0 + 500) (recvM cs [1] (a.put (some 9) (.tuple #[.agg #[.slice a1 n1 c1, .slice a2 n2 c2], .bool true]))) w1 o1 := by
      refine recvd hcn cs S9 (rel W r) h9 ⟨rfl, rfl⟩ (by omega) _ 0 ?_
      rintro _ w2 o2 ⟨a', v', rfl, S', W'⟩ w3 o3 r3
      have e : cellsM got ++ [Value.slice a1 n1 c1, .slice a2 n2 c2] = cellsM (got ++ [.agg #[.slice a1 n1 c1, .slice a2 n2 c2]]) := by
        unfold cellsM; rw [List.flatMap_append]; rfl
      rw [e] at W'
      exact ih (n + 1) _ a' v' w3 o3 (by omega) S' (rel W' r3)
    rw [← h] at hg
    exact hg
end
section
variable {P : Program} {Post : Value → World → Prop} {g g' : Goroutine} {w : World} {b : Frame} {a : Act} {k : List Item} {cs : List Frame} {ops : Array Oper} {i : Nat} {rest : List Nat} {op : Oper}
theorem RetO.step (hs : g.status = .running) (h : ∀ d, ∃ es, stepG P true g (w.at d) = .go g' (w.at d) es) (hk : RetO P Post g' w) : RetO P Post g w :=
  GoI.step hs fun d => let ⟨es, e⟩ := h d; ⟨_, _, es, e, GoI.at hk d⟩
theorem RetO.ctl (hs : g.status = .running) (h : ∀ w, stepG P true g w = .go g' w #[]) (hk : RetO P Post g' w) : RetO P Post g w := RetO.step hs (fun d => ⟨_, h _⟩) hk
theorem RetO.pu {v : Value} (h : Pu P a op v) (ho : ops[i]? = some op) (hw : Region.wanted op (yielded ops a.tmps) = true) (hk : b.kind ≠ .early)
    (hs : RetO P Post (G (b.at (a.put op.dst v) (.inRegion ops rest :: k)) cs) w) : RetO P Post (G (b.at a (.inRegion ops (i :: rest) :: k)) cs) w :=
  RetO.step rfl (fun d => ⟨_, stepG_value ho hw hk (h _).1⟩) hs
theorem RetO.load {x : Operand} {t : TypeId} {A : Addr} {vs : List Value} {v : Value} (ho : ops[i]? = some op) (hw : Region.wanted op (yielded ops a.tmps) = true) (hk : b.kind ≠ .early)
    (hop : op.op = .load t x) (ha : a.eval x = .pointer (some A)) (hl : LoadOf P t vs v) (hc : ∀ j u, vs[j]? = some u → w.cell? (A.add j) = some u)
    (hs : RetO P Post (G (b.at (a.put op.dst v) (.inRegion ops rest :: k)) cs) w) : RetO P Post (G (b.at a (.inRegion ops (i :: rest) :: k)) cs) w := by
  refine RetO.step rfl (fun d => ?_) hs
  have := load_law (P := P) (a := a) (op := op) (nf := A.block + 2) (c := A.block + 1) (me := true) (o1 := fun _ => true) (w1 := w.at d) (by omega) hop ha hl (fun j u hj => ⟨World.block_lt_of_cell? _ _ (hc j u hj), by rw [addBlock]; omega, .inr rfl, hc j u hj⟩)
  exact ⟨_, stepG_value ho hw hk this.1⟩
theorem RetO.unwanted (ho : ops[i]? = some op) (hw : Region.wanted op (yielded ops a.tmps) = false) (hs : RetO P Post (G (b.at (a.put op.dst undef) (.inRegion ops rest :: k)) cs) w) : RetO P Post (G (b.at a (.inRegion ops (i :: rest) :: k)) cs) w :=
  RetO.ctl rfl (fun _ => stepG_unwanted ho hw) hs
end
end Go.Proofs.Ytjkfnjjkjhggfaa
