/- The worker of impl.DeltaCut: behind the round's append; the sends; the way out. The worker of impl.DeltaCut: its stops, and the ways between them. The worker of impl.DeltaCut: the close; what it sends. -/
import Derived.Test.YtjkfnjjkjhggfaaZ24
import Derived.Conc.EventLaws
set_option linter.unusedSimpArgs false
set_option linter.unusedVariables false
namespace Go.Proofs.Ytjkfnjjkjhggfaa
open Go.Conc Go.RowKit

section
variable {P : Program} {nf c : Nat} {n : Nat} {w : World} {o : Who} {b : Frame} {a : Act} {k : List Item} {cs : List Frame} {ops : Array Oper} {i : Nat} {rest : List Nat} {op : Oper}
/-- AT A SEND. -/
theorem atSendO_of {x y : Operand} {v : Value} {Vok : Value → Prop} {Next : Value → Goroutine → World → Who → Prop} (ho : ops[i]? = some op) (hw : Region.wanted op (yielded ops a.tmps) = true) (hk : b.kind ≠ .early) (hop : op.op = .send x y)
    (hx : a.eval x = .chan (some c)) (hy : a.eval y = v) (hv : Vok v) (next : ∀ w1 o1, RO nf c false w o w1 o1 → Next v (G (b.at (a.put op.dst undef) (.inRegion ops rest :: k)) cs) w1 o1) :
    AtSendO P nf c Vok Next (G (b.at a (.inRegion ops (i :: rest) :: k)) cs) w o := by
  refine ⟨rfl, G (b.at a (.inRegion ops (i :: rest) :: k)) cs, v, .tuple #[], #[], ?_, by simp, hv, fun w1 o1 r => ?_⟩
  · rw [stepG_comm (cases := #[scase c v (.tuple #[])]) (blocking := true) (shape := .send) (w' := w) ho hw hk (by simp [execOp, hop, hx, hy, scase])]
    have he : (execOp a.eval op).events P w #[] = #[] := by
      unfold execOp
      simp only [hop]
      rfl
    unfold listed
    rw [he]
    simp [seen]
  · have e : Conc.served (G (b.at a (.inRegion ops (i :: rest) :: k)) cs) undef = G (b.at (a.put op.dst undef) (.inRegion ops rest :: k)) cs := by
      rw [served_G]
      simp [ho]
    rw [e]; exact next w1 o1 r
theorem stepG_deferB {main : Bool} {bi : Builtin} {xs : Array Operand} {ats : Array TypeId} (ho : ops[i]? = some op) (hw : Region.wanted op (yielded ops a.tmps) = true) (hk : b.kind ≠ .early) (hop : op.op = .defer { callee := .builtin bi, args := xs, argTypes := ats }) :
    ∃ cs', ∀ w, stepG P main (G (b.at a (.inRegion ops (i :: rest) :: k)) cs) w = .go (G (b.at (Act.put ⟨a.tmps, { target := .builtin bi ats op.type cs', args := xs.map a.eval } :: a.defers⟩ op.dst undef) (.inRegion ops rest :: k)) cs) w #[] := by
  have hr : ∃ cs' : Array Bool, ∀ w, (execOp a.eval op).run P w = .ok (.defer { target := .builtin bi ats op.type cs', args := xs.map a.eval }) w := ⟨_, fun w => by unfold execOp; simp only [hop, resolve]; rfl⟩
  obtain ⟨cs', hr⟩ := hr
  refine ⟨cs', fun w => ?_⟩
  have he : (execOp a.eval op).events P w #[] = #[] := by
    unfold execOp
    simp [hop, resolve]
  have hfin : ∀ ds, (b.at ⟨a.tmps, ds⟩ (.inRegion ops (i :: rest) :: k)).finish undef = b.at (Act.put ⟨a.tmps, ds⟩ op.dst undef) (.inRegion ops rest :: k) := fun ds => by rw [Frame.finish_at, ho]; rfl
  have hk' : (b.kind == CallKind.early) = false := by simpa using hk
  rw [stepG_oper ho hw, ← hfin]
  simp [stepG.apply, hr w, he, G, Frame.at, hk', GStep.after, seen_none]
end
section
variable {nf c bm bd kn N k n1 n2 N1 N2 : Nat} {w0 w : World} {o : Who} {s1 s2 : Value}
/-- At the loop's head. -/
noncomputable abbrev headW (a : Act) : Goroutine := G ((baseD 34).at a [.code loopW, .inLoop loopW, .inBlock 0, .code tailW]) [botW]
/-- Behind the round's append. -/
noncomputable abbrev midW (a : Act) : Goroutine := G ((baseD 34).at a [.code restW, .inBlock 1, .code incW, .inLoop loopW, .inBlock 0, .code tailW]) [botW]
theorem nowW_sl (W : NowW nf c w0 w o kn n1 n2) : ∃ a1 c1 a2 c2 xs1 xs2, Kn nf c false w o kn (.cells #[.slice a1 n1 c1, .slice a2 n2 c2] 32) ∧ OwnO nf false w o 62 2 (.slice a1 n1 c1) n1 xs1 ∧ OwnO nf false w o 64 5 (.slice a2 n2 c2) n2 xs2 := by
  obtain ⟨v1, v2, xs1, xs2, K, h1, h2⟩ := W.now
  obtain ⟨a1, c1, rfl⟩ := h1.sl
  obtain ⟨a2, c2, rfl⟩ := h2.sl
  exact ⟨_, _, _, _, _, _, K, h1, h2⟩
theorem nowW_rx (hcn : c < nf) (W : NowW nf c w0 w o kn n1 n2) {w1 : World} {o1 : Who} (r : RX nf c false none w o w1 o1) : NowW nf c w0 w1 o1 kn n1 n2 := by
  obtain ⟨v1, v2, xs1, xs2, K, h1, h2⟩ := W.now
  exact ⟨W.old.rx r (by simp), W.nk, (r.own _ K.lt).trans W.mine, _, _, _, _, K.rx r (by simp), h1.rx hcn r (by simp), h2.rx hcn r (by simp)⟩
set_option maxRecDepth 100000 in
theorem rest_no (D : DataO nf c w0 bm bd s1 s2 N1 N2) {a : Act} (S : SlotsW a c bm bd kn N k) (W : NowW nf c w0 w o kn n1 n2) (hN : N = N1 + N2) (hk : k < N) (hne : n1 + n2 ≠ 3) (hs : n1 + n2 ≤ 3) :
    Seg Try.prog nf c false (fun g' w' o' => ∃ a', g' = headW a' ∧ SlotsW a' c bm bd kn N (k + 1) ∧ NowW nf c w0 w' o' kn n1 n2) 400 (midW a) w o := by
  simp only [midW, headW]
  obtain ⟨R_, hR_⟩ : ∃ R, restW = R := ⟨_, rfl⟩
  rw [hR_]
  simp only [restW, loopW, bodyW, Try.f34, Option.getD_some] at hR_
  subst hR_
  obtain ⟨R_, hR_⟩ : ∃ R, incW = R := ⟨_, rfl⟩
  rw [hR_]
  simp only [incW, loopW, bodyW, Try.f34, Option.getD_some] at hR_
  subst hR_
  obtain ⟨a1, c1, a2, c2, xs1, xs2, K, h1, h2⟩ := nowW_sl W
  first
  | refine Seg.ctl rfl (fun _ => stepG_seq) ?_
  | refine Seg.ctl rfl (fun _ => stepG_region_end) ?_
  | (refine Seg.ctl rfl (fun _ => stepG_region) ?_; simp only [List.size_toArray, List.length_cons, List.length_nil, Nat.reduceAdd, Nat.zero_add, List.range, List.range.loop])
  | refine Seg.ctl rfl (fun _ => stepG_block) ?_
  | refine Seg.ctl rfl (fun _ => stepG_inBlock) ?_
  | refine Seg.ctl rfl (fun _ => stepG_ret') ?_
  | refine Seg.ctl rfl (fun _ => stepG_loop) ?_
  | refine Seg.ctl rfl (fun _ => stepG_inLoop) ?_
  | refine Seg.ctl rfl (fun _ => stepG_skip) ?_
  first
  | refine Seg.ctl rfl (fun _ => stepG_seq) ?_
  | refine Seg.ctl rfl (fun _ => stepG_region_end) ?_
  | (refine Seg.ctl rfl (fun _ => stepG_region) ?_; simp only [List.size_toArray, List.length_cons, List.length_nil, Nat.reduceAdd, Nat.zero_add, List.range, List.range.loop])
  | refine Seg.ctl rfl (fun _ => stepG_block) ?_
  | refine Seg.ctl rfl (fun _ => stepG_inBlock) ?_
  | refine Seg.ctl rfl (fun _ => stepG_ret') ?_
  | refine Seg.ctl rfl (fun _ => stepG_loop) ?_
  | refine Seg.ctl rfl (fun _ => stepG_inLoop) ?_
  | refine Seg.ctl rfl (fun _ => stepG_skip) ?_
  refine Seg.load D.cn (A := ⟨kn, 0, none⟩) (vs := [.slice a1 n1 c1, .slice a2 n2 c2]) rfl rfl (by decide) rfl (by simp [ev_put_ne, ev_put_eq, ev_const, sz_put, S.size, S.t0, S.t1, S.t2, S.t6, S.t7]) (.agg Try.underlying32 rfl Try.type32 rfl (by simp)) (K.cks rfl) ?_
  simp only [List.getElem_toArray, List.getElem_cons_succ, List.getElem_cons_zero, ev_put_none]
  refine Seg.le (Seg.callO (n := 300) (vs := #[.agg #[.slice a1 n1 c1, .slice a2 n2 c2]]) rfl rfl (by decide) rfl Try.func14 (by kernel_rfl) rfl (by simp [ev_put_ne, ev_put_eq, ev_const, sz_put, S.size, S.t0, S.t1, S.t2, S.t6, S.t7]) (deltaMany_o D.cn W.old.size a1 a2 n1 c1 n2 c2 (by omega)) fun v w1 o1 h => ?_) (by omega)
  obtain ⟨rfl, r⟩ := h
  have W := nowW_rx D.cn W r
  clear r K h1 h2
  simp only [List.getElem_toArray, List.getElem_cons_succ, List.getElem_cons_zero, ev_put_none]
  refine Seg.pu (Pu.bin (v := .bool false) (m := (n1 : Int) + n2) (l := 3) rfl (by simp [ev_put_ne, ev_put_eq, ev_const, sz_put, S.size, S.t0, S.t1, S.t2, S.t6, S.t7]) (by simp [ev_put_ne, ev_put_eq, ev_const, sz_put, S.size, S.t0, S.t1, S.t2, S.t6, S.t7]) (by rw [bin_eql]; congr 2; exact beq_eq_false_iff_ne.2 (by omega))) rfl rfl (by decide) ?_
  simp only [List.getElem_toArray, List.getElem_cons_succ, List.getElem_cons_zero, ev_put_none]
  first
  | refine Seg.ctl rfl (fun _ => stepG_seq) ?_
  | refine Seg.ctl rfl (fun _ => stepG_region_end) ?_
  | (refine Seg.ctl rfl (fun _ => stepG_region) ?_; simp only [List.size_toArray, List.length_cons, List.length_nil, Nat.reduceAdd, Nat.zero_add, List.range, List.range.loop])
  | refine Seg.ctl rfl (fun _ => stepG_block) ?_
  | refine Seg.ctl rfl (fun _ => stepG_inBlock) ?_
  | refine Seg.ctl rfl (fun _ => stepG_ret') ?_
  | refine Seg.ctl rfl (fun _ => stepG_loop) ?_
  | refine Seg.ctl rfl (fun _ => stepG_inLoop) ?_
  | refine Seg.ctl rfl (fun _ => stepG_skip) ?_
  refine Seg.ctl rfl (fun _ => stepG_cond (t := false) (by simp [ev_put_ne, ev_put_eq, ev_const, sz_put, S.size, S.t0, S.t1, S.t2, S.t6, S.t7])) ?_
  simp only [if_false, Bool.false_eq_true]
  first
  | refine Seg.ctl rfl (fun _ => stepG_seq) ?_
  | refine Seg.ctl rfl (fun _ => stepG_region_end) ?_
  | (refine Seg.ctl rfl (fun _ => stepG_region) ?_; simp only [List.size_toArray, List.length_cons, List.length_nil, Nat.reduceAdd, Nat.zero_add, List.range, List.range.loop])
  | refine Seg.ctl rfl (fun _ => stepG_block) ?_
  | refine Seg.ctl rfl (fun _ => stepG_inBlock) ?_
  | refine Seg.ctl rfl (fun _ => stepG_ret') ?_
  | refine Seg.ctl rfl (fun _ => stepG_loop) ?_
  | refine Seg.ctl rfl (fun _ => stepG_inLoop) ?_
  | refine Seg.ctl rfl (fun _ => stepG_skip) ?_
  first
  | refine Seg.ctl rfl (fun _ => stepG_seq) ?_
  | refine Seg.ctl rfl (fun _ => stepG_region_end) ?_
  | (refine Seg.ctl rfl (fun _ => stepG_region) ?_; simp only [List.size_toArray, List.length_cons, List.length_nil, Nat.reduceAdd, Nat.zero_add, List.range, List.range.loop])
  | refine Seg.ctl rfl (fun _ => stepG_block) ?_
  | refine Seg.ctl rfl (fun _ => stepG_inBlock) ?_
  | refine Seg.ctl rfl (fun _ => stepG_ret') ?_
  | refine Seg.ctl rfl (fun _ => stepG_loop) ?_
  | refine Seg.ctl rfl (fun _ => stepG_inLoop) ?_
  | refine Seg.ctl rfl (fun _ => stepG_skip) ?_
  first
  | refine Seg.ctl rfl (fun _ => stepG_seq) ?_
  | refine Seg.ctl rfl (fun _ => stepG_region_end) ?_
  | (refine Seg.ctl rfl (fun _ => stepG_region) ?_; simp only [List.size_toArray, List.length_cons, List.length_nil, Nat.reduceAdd, Nat.zero_add, List.range, List.range.loop])
  | refine Seg.ctl rfl (fun _ => stepG_block) ?_
  | refine Seg.ctl rfl (fun _ => stepG_inBlock) ?_
  | refine Seg.ctl rfl (fun _ => stepG_ret') ?_
  | refine Seg.ctl rfl (fun _ => stepG_loop) ?_
  | refine Seg.ctl rfl (fun _ => stepG_inLoop) ?_
  | refine Seg.ctl rfl (fun _ => stepG_skip) ?_
  have hcast : IntKind.i64.wrap ((k : Int) + 1) = ((k + 1 : Nat) : Int) := by rw [IntKind.wrap_i64]; have := D.few; omega
  refine Seg.pu (Pu.bin (v := .int .i64 (k + 1 : Nat)) (m := k) (l := 1) rfl (by simp [ev_put_ne, ev_put_eq, ev_const, sz_put, S.size, S.t0, S.t1, S.t2, S.t6, S.t7]) (by simp [ev_put_ne, ev_put_eq, ev_const, sz_put, S.size, S.t0, S.t1, S.t2, S.t6, S.t7]) (by rw [bin_add, hcast])) rfl rfl (by decide) ?_
  simp only [List.getElem_toArray, List.getElem_cons_succ, List.getElem_cons_zero, ev_put_none]
  refine Seg.pu (Pu.move (v := .int .i64 (k + 1 : Nat)) rfl (by simp [ev_put_ne, ev_put_eq, ev_const, sz_put, S.size, S.t0, S.t1, S.t2, S.t6, S.t7])) rfl rfl (by decide) ?_
  simp only [List.getElem_toArray, List.getElem_cons_succ, List.getElem_cons_zero, ev_put_none]
  first
  | refine Seg.ctl rfl (fun _ => stepG_seq) ?_
  | refine Seg.ctl rfl (fun _ => stepG_region_end) ?_
  | (refine Seg.ctl rfl (fun _ => stepG_region) ?_; simp only [List.size_toArray, List.length_cons, List.length_nil, Nat.reduceAdd, Nat.zero_add, List.range, List.range.loop])
  | refine Seg.ctl rfl (fun _ => stepG_block) ?_
  | refine Seg.ctl rfl (fun _ => stepG_inBlock) ?_
  | refine Seg.ctl rfl (fun _ => stepG_ret') ?_
  | refine Seg.ctl rfl (fun _ => stepG_loop) ?_
  | refine Seg.ctl rfl (fun _ => stepG_inLoop) ?_
  | refine Seg.ctl rfl (fun _ => stepG_skip) ?_
  first
  | refine Seg.ctl rfl (fun _ => stepG_seq) ?_
  | refine Seg.ctl rfl (fun _ => stepG_region_end) ?_
  | (refine Seg.ctl rfl (fun _ => stepG_region) ?_; simp only [List.size_toArray, List.length_cons, List.length_nil, Nat.reduceAdd, Nat.zero_add, List.range, List.range.loop])
  | refine Seg.ctl rfl (fun _ => stepG_block) ?_
  | refine Seg.ctl rfl (fun _ => stepG_inBlock) ?_
  | refine Seg.ctl rfl (fun _ => stepG_ret') ?_
  | refine Seg.ctl rfl (fun _ => stepG_loop) ?_
  | refine Seg.ctl rfl (fun _ => stepG_inLoop) ?_
  | refine Seg.ctl rfl (fun _ => stepG_skip) ?_
  exact Seg.done ⟨_, rfl, ⟨by simp [sz_put, S.size], by simpa [df_put] using S.defers, (by simp [ev_put_ne, ev_put_eq, ev_const, sz_put, S.size, S.t0, S.t1, S.t2, S.t6, S.t7]), (by simp [ev_put_ne, ev_put_eq, ev_const, sz_put, S.size, S.t0, S.t1, S.t2, S.t6, S.t7]), (by simp [ev_put_ne, ev_put_eq, ev_const, sz_put, S.size, S.t0, S.t1, S.t2, S.t6, S.t7]), (by simp [ev_put_ne, ev_put_eq, ev_const, sz_put, S.size, S.t0, S.t1, S.t2, S.t6, S.t7]), (by simp [ev_put_ne, ev_put_eq, ev_const, sz_put, S.size, S.t0, S.t1, S.t2, S.t6, S.t7])⟩, W⟩
end
end Go.Proofs.Ytjkfnjjkjhggfaa
set_option linter.unusedSimpArgs false
set_option linter.unusedVariables false
namespace Go.Proofs.Ytjkfnjjkjhggfaa
open Go.Conc Go.RowKit

noncomputable def ops9 : Array Oper := match restW with | .seq _ (.cond _ (.seq (.region _ ops _) _) _) => ops | _ => #[]
noncomputable def code10 : Code := match restW with | .seq _ (.cond _ (.seq _ r) _) => r | _ => .skip
noncomputable def ops13 : Array Oper := match tailW with | .seq _ (.cond _ (.region _ ops _) _) => ops | _ => #[]
theorem build_zero (w : World) : (Instr.build 32 #[]).run Try.prog w = .ok (.agg #[.slice none 0 0, .slice none 0 0]) w := by kernel_rfl
theorem build_zero_ev (w : World) : (Instr.build 32 #[]).events Try.prog w #[] = #[] := by kernel_rfl
theorem pu_zero {a : Act} {op : Oper} (hop : op.op = .build 32 #[]) : Pu Try.prog a op (.agg #[.slice none 0 0, .slice none 0 0]) := fun w => by
  unfold execOp
  simp [hop, build_zero w, build_zero_ev w]
/-- What is sent. -/
def Vmsg (v : Value) : Prop := ∃ a1 n1 c1 a2 n2 c2, v = .agg #[.slice a1 n1 c1, .slice a2 n2 c2]
section
variable {nf c bm bd kn N k n1 n2 N1 N2 : Nat} {w0 w : World} {o : Who} {s1 s2 : Value}
noncomputable abbrev sendW (is : List Nat) (a : Act) : Goroutine := G ((baseD 34).at a [.inRegion ops9 is, .code code10, .inBlock 1, .code incW, .inLoop loopW, .inBlock 0, .code tailW]) [botW]
noncomputable abbrev sendT (is : List Nat) (a : Act) : Goroutine := G ((baseD 34).at a [.inRegion ops13 is]) [botW]
noncomputable abbrev retW (a : Act) : Goroutine := G { (baseD 34).at a [] with mode := .returning } [botW]
set_option maxRecDepth 100000 in
theorem rest_yes (D : DataO nf c w0 bm bd s1 s2 N1 N2) {a : Act} (S : SlotsW a c bm bd kn N k) (W : NowW nf c w0 w o kn n1 n2) (hN : N = N1 + N2) (hk : k < N) (hne : n1 + n2 = 3) :
    Seg Try.prog nf c false (fun g' w' o' => ∃ a' v, g' = sendW [2] a' ∧ SlotsW a' c bm bd kn N k ∧ NowW nf c w0 w' o' kn n1 n2 ∧ a'.eval (.tmp 43) = .chan (some c) ∧ a'.eval (.tmp 44) = v ∧ Vmsg v) 400 (midW a) w o := by
  simp only [midW, sendW]
  obtain ⟨R, hR⟩ : ∃ R, Item.code restW = R := ⟨_, rfl⟩
  rw [hR]
  simp only [restW, loopW, bodyW, Try.f34, Option.getD_some] at hR
  subst hR
  obtain ⟨a1, c1, a2, c2, xs1, xs2, K, h1, h2⟩ := nowW_sl W
  first
  | refine Seg.ctl rfl (fun _ => stepG_seq) ?_
  | refine Seg.ctl rfl (fun _ => stepG_region_end) ?_
  | (refine Seg.ctl rfl (fun _ => stepG_region) ?_; simp only [List.size_toArray, List.length_cons, List.length_nil, Nat.reduceAdd, Nat.zero_add, List.range, List.range.loop])
  | refine Seg.ctl rfl (fun _ => stepG_block) ?_
  | refine Seg.ctl rfl (fun _ => stepG_inBlock) ?_
  | refine Seg.ctl rfl (fun _ => stepG_ret') ?_
  | refine Seg.ctl rfl (fun _ => stepG_loop) ?_
  | refine Seg.ctl rfl (fun _ => stepG_inLoop) ?_
  | refine Seg.ctl rfl (fun _ => stepG_skip) ?_
  first
  | refine Seg.ctl rfl (fun _ => stepG_seq) ?_
  | refine Seg.ctl rfl (fun _ => stepG_region_end) ?_
  | (refine Seg.ctl rfl (fun _ => stepG_region) ?_; simp only [List.size_toArray, List.length_cons, List.length_nil, Nat.reduceAdd, Nat.zero_add, List.range, List.range.loop])
  | refine Seg.ctl rfl (fun _ => stepG_block) ?_
  | refine Seg.ctl rfl (fun _ => stepG_inBlock) ?_
  | refine Seg.ctl rfl (fun _ => stepG_ret') ?_
  | refine Seg.ctl rfl (fun _ => stepG_loop) ?_
  | refine Seg.ctl rfl (fun _ => stepG_inLoop) ?_
  | refine Seg.ctl rfl (fun _ => stepG_skip) ?_
  refine Seg.load D.cn (A := ⟨kn, 0, none⟩) (vs := [.slice a1 n1 c1, .slice a2 n2 c2]) rfl rfl (by decide) rfl (by simp [ev_put_ne, ev_put_eq, ev_const, sz_put, S.size, S.t0, S.t1, S.t2, S.t6, S.t7]) (.agg Try.underlying32 rfl Try.type32 rfl (by simp)) (K.cks rfl) ?_
  simp only [List.getElem_toArray, List.getElem_cons_succ, List.getElem_cons_zero, ev_put_none]
  refine Seg.le (Seg.callO (n := 300) (vs := #[.agg #[.slice a1 n1 c1, .slice a2 n2 c2]]) rfl rfl (by decide) rfl Try.func14 (by kernel_rfl) rfl (by simp [ev_put_ne, ev_put_eq, ev_const, sz_put, S.size, S.t0, S.t1, S.t2, S.t6, S.t7]) (deltaMany_o D.cn W.old.size a1 a2 n1 c1 n2 c2 (by omega)) fun v w1 o1 h => ?_) (by omega)
  obtain ⟨rfl, r⟩ := h
  have W := nowW_rx D.cn W r
  have K := K.rx r (by simp)
  clear r h1 h2
  simp only [List.getElem_toArray, List.getElem_cons_succ, List.getElem_cons_zero, ev_put_none]
  refine Seg.pu (Pu.bin (v := .bool true) (m := (n1 : Int) + n2) (l := 3) rfl (by simp [ev_put_ne, ev_put_eq, ev_const, sz_put, S.size, S.t0, S.t1, S.t2, S.t6, S.t7]) (by simp [ev_put_ne, ev_put_eq, ev_const, sz_put, S.size, S.t0, S.t1, S.t2, S.t6, S.t7]) (by rw [bin_eql, show ((n1 : Int) + n2) = 3 by omega]; rfl)) rfl rfl (by decide) ?_
  simp only [List.getElem_toArray, List.getElem_cons_succ, List.getElem_cons_zero, ev_put_none]
  first
  | refine Seg.ctl rfl (fun _ => stepG_seq) ?_
  | refine Seg.ctl rfl (fun _ => stepG_region_end) ?_
  | (refine Seg.ctl rfl (fun _ => stepG_region) ?_; simp only [List.size_toArray, List.length_cons, List.length_nil, Nat.reduceAdd, Nat.zero_add, List.range, List.range.loop])
  | refine Seg.ctl rfl (fun _ => stepG_block) ?_
  | refine Seg.ctl rfl (fun _ => stepG_inBlock) ?_
  | refine Seg.ctl rfl (fun _ => stepG_ret') ?_
  | refine Seg.ctl rfl (fun _ => stepG_loop) ?_
  | refine Seg.ctl rfl (fun _ => stepG_inLoop) ?_
  | refine Seg.ctl rfl (fun _ => stepG_skip) ?_
  refine Seg.ctl rfl (fun _ => stepG_cond (t := true) (by simp [ev_put_ne, ev_put_eq, ev_const, sz_put, S.size, S.t0, S.t1, S.t2, S.t6, S.t7])) ?_
  simp only [if_true]
  first
  | refine Seg.ctl rfl (fun _ => stepG_seq) ?_
  | refine Seg.ctl rfl (fun _ => stepG_region_end) ?_
  | (refine Seg.ctl rfl (fun _ => stepG_region) ?_; simp only [List.size_toArray, List.length_cons, List.length_nil, Nat.reduceAdd, Nat.zero_add, List.range, List.range.loop])
  | refine Seg.ctl rfl (fun _ => stepG_block) ?_
  | refine Seg.ctl rfl (fun _ => stepG_inBlock) ?_
  | refine Seg.ctl rfl (fun _ => stepG_ret') ?_
  | refine Seg.ctl rfl (fun _ => stepG_loop) ?_
  | refine Seg.ctl rfl (fun _ => stepG_inLoop) ?_
  | refine Seg.ctl rfl (fun _ => stepG_skip) ?_
  first
  | refine Seg.ctl rfl (fun _ => stepG_seq) ?_
  | refine Seg.ctl rfl (fun _ => stepG_region_end) ?_
  | (refine Seg.ctl rfl (fun _ => stepG_region) ?_; simp only [List.size_toArray, List.length_cons, List.length_nil, Nat.reduceAdd, Nat.zero_add, List.range, List.range.loop])
  | refine Seg.ctl rfl (fun _ => stepG_block) ?_
  | refine Seg.ctl rfl (fun _ => stepG_inBlock) ?_
  | refine Seg.ctl rfl (fun _ => stepG_ret') ?_
  | refine Seg.ctl rfl (fun _ => stepG_loop) ?_
  | refine Seg.ctl rfl (fun _ => stepG_inLoop) ?_
  | refine Seg.ctl rfl (fun _ => stepG_skip) ?_
  refine Seg.load D.cn (A := ⟨bm, 0, none⟩) (vs := [.chan (some c)]) rfl rfl (by decide) rfl (by simp [ev_put_ne, ev_put_eq, ev_const, sz_put, S.size, S.t0, S.t1, S.t2, S.t6, S.t7]) (.one Try.underlying60 rfl) (ck1 (D.msg.ck W.old)) ?_
  simp only [List.getElem_toArray, List.getElem_cons_succ, List.getElem_cons_zero, ev_put_none]
  refine Seg.load D.cn (A := ⟨kn, 0, none⟩) (vs := [.slice a1 n1 c1, .slice a2 n2 c2]) rfl rfl (by decide) rfl (by simp [ev_put_ne, ev_put_eq, ev_const, sz_put, S.size, S.t0, S.t1, S.t2, S.t6, S.t7]) (.agg Try.underlying32 rfl Try.type32 rfl (by simp)) (K.cks rfl) ?_
  simp only [List.getElem_toArray, List.getElem_cons_succ, List.getElem_cons_zero, ev_put_none]
  exact Seg.done ⟨_, .agg #[.slice a1 n1 c1, .slice a2 n2 c2], rfl, ⟨by simp [sz_put, S.size], by simpa [df_put] using S.defers, (by simp [ev_put_ne, ev_put_eq, ev_const, sz_put, S.size, S.t0, S.t1, S.t2, S.t6, S.t7]), (by simp [ev_put_ne, ev_put_eq, ev_const, sz_put, S.size, S.t0, S.t1, S.t2, S.t6, S.t7]), (by simp [ev_put_ne, ev_put_eq, ev_const, sz_put, S.size, S.t0, S.t1, S.t2, S.t6, S.t7]), (by simp [ev_put_ne, ev_put_eq, ev_const, sz_put, S.size, S.t0, S.t1, S.t2, S.t6, S.t7]), (by simp [ev_put_ne, ev_put_eq, ev_const, sz_put, S.size, S.t0, S.t1, S.t2, S.t6, S.t7])⟩, W, (by simp [ev_put_ne, ev_put_eq, ev_const, sz_put, S.size, S.t0, S.t1, S.t2, S.t6, S.t7]), (by simp [ev_put_ne, ev_put_eq, ev_const, sz_put, S.size, S.t0, S.t1, S.t2, S.t6, S.t7]), _, _, _, _, _, _, rfl⟩
set_option maxRecDepth 100000 in
theorem after_send (D : DataO nf c w0 bm bd s1 s2 N1 N2) {a : Act} (S : SlotsW a c bm bd kn N k) (W : NowW nf c w0 w o kn n1 n2) (hN : N = N1 + N2) (hk : k < N) :
    Seg Try.prog nf c false (fun g' w' o' => ∃ a', g' = headW a' ∧ SlotsW a' c bm bd kn N (k + 1) ∧ NowW nf c w0 w' o' kn 0 0) 400 (sendW [] a) w o := by
  simp only [sendW, headW]
  obtain ⟨R, hR⟩ : ∃ R, Item.code code10 = R := ⟨_, rfl⟩
  rw [hR]
  simp only [code10, restW, loopW, bodyW, Try.f34, Option.getD_some] at hR
  subst hR
  obtain ⟨R, hR⟩ : ∃ R, Item.code incW = R := ⟨_, rfl⟩
  rw [hR]
  simp only [incW, loopW, bodyW, Try.f34, Option.getD_some] at hR
  subst hR
  obtain ⟨v1, v2, xs1, xs2, K, h1, h2⟩ := W.now
  first
  | refine Seg.ctl rfl (fun _ => stepG_seq) ?_
  | refine Seg.ctl rfl (fun _ => stepG_region_end) ?_
  | (refine Seg.ctl rfl (fun _ => stepG_region) ?_; simp only [List.size_toArray, List.length_cons, List.length_nil, Nat.reduceAdd, Nat.zero_add, List.range, List.range.loop])
  | refine Seg.ctl rfl (fun _ => stepG_block) ?_
  | refine Seg.ctl rfl (fun _ => stepG_inBlock) ?_
  | refine Seg.ctl rfl (fun _ => stepG_ret') ?_
  | refine Seg.ctl rfl (fun _ => stepG_loop) ?_
  | refine Seg.ctl rfl (fun _ => stepG_inLoop) ?_
  | refine Seg.ctl rfl (fun _ => stepG_skip) ?_
  first
  | refine Seg.ctl rfl (fun _ => stepG_seq) ?_
  | refine Seg.ctl rfl (fun _ => stepG_region_end) ?_
  | (refine Seg.ctl rfl (fun _ => stepG_region) ?_; simp only [List.size_toArray, List.length_cons, List.length_nil, Nat.reduceAdd, Nat.zero_add, List.range, List.range.loop])
  | refine Seg.ctl rfl (fun _ => stepG_block) ?_
  | refine Seg.ctl rfl (fun _ => stepG_inBlock) ?_
  | refine Seg.ctl rfl (fun _ => stepG_ret') ?_
  | refine Seg.ctl rfl (fun _ => stepG_loop) ?_
  | refine Seg.ctl rfl (fun _ => stepG_inLoop) ?_
  | refine Seg.ctl rfl (fun _ => stepG_skip) ?_
  refine Seg.pu (pu_zero rfl) rfl rfl (by decide) ?_
  simp only [List.getElem_toArray, List.getElem_cons_succ, List.getElem_cons_zero, ev_put_none]
  refine Seg.store (g := kn) (off := 0) (vs := [.slice none 0 0, .slice none 0 0]) D.cn rfl rfl (by decide) rfl (by simp [ev_put_ne, ev_put_eq, ev_const, sz_put, S.size, S.t0, S.t1, S.t2, S.t6, S.t7]) (by simp [ev_put_ne, ev_put_eq, ev_const, sz_put, S.size, Value.cells]) Try.type32 rfl (by simp [Value.oneCell']) K W.nk W.mine (by simp) fun w1 o1 r hm K => ?_
  replace K : Kn nf c false w1 o1 kn (.cells #[.slice none 0 0, .slice none 0 0] 32) := K
  have W : NowW nf c w0 w1 o1 kn 0 0 := ⟨W.old.rx r (fun g e => by cases e; exact W.nk), W.nk, hm, _, _, _, _, K, OwnO.nil .., OwnO.nil ..⟩
  clear r h1 h2
  simp only [List.getElem_toArray, List.getElem_cons_succ, List.getElem_cons_zero, ev_put_none]
  first
  | refine Seg.ctl rfl (fun _ => stepG_seq) ?_
  | refine Seg.ctl rfl (fun _ => stepG_region_end) ?_
  | (refine Seg.ctl rfl (fun _ => stepG_region) ?_; simp only [List.size_toArray, List.length_cons, List.length_nil, Nat.reduceAdd, Nat.zero_add, List.range, List.range.loop])
  | refine Seg.ctl rfl (fun _ => stepG_block) ?_
  | refine Seg.ctl rfl (fun _ => stepG_inBlock) ?_
  | refine Seg.ctl rfl (fun _ => stepG_ret') ?_
  | refine Seg.ctl rfl (fun _ => stepG_loop) ?_
  | refine Seg.ctl rfl (fun _ => stepG_inLoop) ?_
  | refine Seg.ctl rfl (fun _ => stepG_skip) ?_
  first
  | refine Seg.ctl rfl (fun _ => stepG_seq) ?_
  | refine Seg.ctl rfl (fun _ => stepG_region_end) ?_
  | (refine Seg.ctl rfl (fun _ => stepG_region) ?_; simp only [List.size_toArray, List.length_cons, List.length_nil, Nat.reduceAdd, Nat.zero_add, List.range, List.range.loop])
  | refine Seg.ctl rfl (fun _ => stepG_block) ?_
  | refine Seg.ctl rfl (fun _ => stepG_inBlock) ?_
  | refine Seg.ctl rfl (fun _ => stepG_ret') ?_
  | refine Seg.ctl rfl (fun _ => stepG_loop) ?_
  | refine Seg.ctl rfl (fun _ => stepG_inLoop) ?_
  | refine Seg.ctl rfl (fun _ => stepG_skip) ?_
  first
  | refine Seg.ctl rfl (fun _ => stepG_seq) ?_
  | refine Seg.ctl rfl (fun _ => stepG_region_end) ?_
  | (refine Seg.ctl rfl (fun _ => stepG_region) ?_; simp only [List.size_toArray, List.length_cons, List.length_nil, Nat.reduceAdd, Nat.zero_add, List.range, List.range.loop])
  | refine Seg.ctl rfl (fun _ => stepG_block) ?_
  | refine Seg.ctl rfl (fun _ => stepG_inBlock) ?_
  | refine Seg.ctl rfl (fun _ => stepG_ret') ?_
  | refine Seg.ctl rfl (fun _ => stepG_loop) ?_
  | refine Seg.ctl rfl (fun _ => stepG_inLoop) ?_
  | refine Seg.ctl rfl (fun _ => stepG_skip) ?_
  have hcast : IntKind.i64.wrap ((k : Int) + 1) = ((k + 1 : Nat) : Int) := by rw [IntKind.wrap_i64]; have := D.few; omega
  refine Seg.pu (Pu.bin (v := .int .i64 (k + 1 : Nat)) (m := k) (l := 1) rfl (by simp [ev_put_ne, ev_put_eq, ev_const, sz_put, S.size, S.t0, S.t1, S.t2, S.t6, S.t7]) (by simp [ev_put_ne, ev_put_eq, ev_const, sz_put, S.size, S.t0, S.t1, S.t2, S.t6, S.t7]) (by rw [bin_add, hcast])) rfl rfl (by decide) ?_
  simp only [List.getElem_toArray, List.getElem_cons_succ, List.getElem_cons_zero, ev_put_none]
  refine Seg.pu (Pu.move (v := .int .i64 (k + 1 : Nat)) rfl (by simp [ev_put_ne, ev_put_eq, ev_const, sz_put, S.size, S.t0, S.t1, S.t2, S.t6, S.t7])) rfl rfl (by decide) ?_
  simp only [List.getElem_toArray, List.getElem_cons_succ, List.getElem_cons_zero, ev_put_none]
  first
  | refine Seg.ctl rfl (fun _ => stepG_seq) ?_
  | refine Seg.ctl rfl (fun _ => stepG_region_end) ?_
  | (refine Seg.ctl rfl (fun _ => stepG_region) ?_; simp only [List.size_toArray, List.length_cons, List.length_nil, Nat.reduceAdd, Nat.zero_add, List.range, List.range.loop])
  | refine Seg.ctl rfl (fun _ => stepG_block) ?_
  | refine Seg.ctl rfl (fun _ => stepG_inBlock) ?_
  | refine Seg.ctl rfl (fun _ => stepG_ret') ?_
  | refine Seg.ctl rfl (fun _ => stepG_loop) ?_
  | refine Seg.ctl rfl (fun _ => stepG_inLoop) ?_
  | refine Seg.ctl rfl (fun _ => stepG_skip) ?_
  first
  | refine Seg.ctl rfl (fun _ => stepG_seq) ?_
  | refine Seg.ctl rfl (fun _ => stepG_region_end) ?_
  | (refine Seg.ctl rfl (fun _ => stepG_region) ?_; simp only [List.size_toArray, List.length_cons, List.length_nil, Nat.reduceAdd, Nat.zero_add, List.range, List.range.loop])
  | refine Seg.ctl rfl (fun _ => stepG_block) ?_
  | refine Seg.ctl rfl (fun _ => stepG_inBlock) ?_
  | refine Seg.ctl rfl (fun _ => stepG_ret') ?_
  | refine Seg.ctl rfl (fun _ => stepG_loop) ?_
  | refine Seg.ctl rfl (fun _ => stepG_inLoop) ?_
  | refine Seg.ctl rfl (fun _ => stepG_skip) ?_
  exact Seg.done ⟨_, rfl, ⟨by simp [sz_put, S.size], by simpa [df_put] using S.defers, (by simp [ev_put_ne, ev_put_eq, ev_const, sz_put, S.size, S.t0, S.t1, S.t2, S.t6, S.t7]), (by simp [ev_put_ne, ev_put_eq, ev_const, sz_put, S.size, S.t0, S.t1, S.t2, S.t6, S.t7]), (by simp [ev_put_ne, ev_put_eq, ev_const, sz_put, S.size, S.t0, S.t1, S.t2, S.t6, S.t7]), (by simp [ev_put_ne, ev_put_eq, ev_const, sz_put, S.size, S.t0, S.t1, S.t2, S.t6, S.t7]), (by simp [ev_put_ne, ev_put_eq, ev_const, sz_put, S.size, S.t0, S.t1, S.t2, S.t6, S.t7])⟩, W⟩
set_option maxRecDepth 100000 in
theorem exit_send (D : DataO nf c w0 bm bd s1 s2 N1 N2) {a : Act} (S : SlotsW a c bm bd kn N N) (W : NowW nf c w0 w o kn n1 n2) (hpos : 0 < n1 + n2) (hs : n1 + n2 ≤ 3) :
    Seg Try.prog nf c false (fun g' w' o' => ∃ a' v, g' = sendT [2] a' ∧ SlotsW a' c bm bd kn N N ∧ a'.eval (.tmp 50) = .chan (some c) ∧ a'.eval (.tmp 51) = v ∧ Vmsg v) 500 (headW a) w o := by
  simp only [headW, sendT]
  generalize hL : Item.inLoop loopW = IL
  obtain ⟨R, hR⟩ : ∃ R, Item.code loopW = R := ⟨_, rfl⟩
  rw [hR]
  simp only [loopW, bodyW, Try.f34, Option.getD_some] at hR
  subst hR
  first
  | refine Seg.ctl rfl (fun _ => stepG_seq) ?_
  | refine Seg.ctl rfl (fun _ => stepG_region_end) ?_
  | (refine Seg.ctl rfl (fun _ => stepG_region) ?_; simp only [List.size_toArray, List.length_cons, List.length_nil, Nat.reduceAdd, Nat.zero_add, List.range, List.range.loop])
  | refine Seg.ctl rfl (fun _ => stepG_block) ?_
  | refine Seg.ctl rfl (fun _ => stepG_inBlock) ?_
  | refine Seg.ctl rfl (fun _ => stepG_ret') ?_
  | refine Seg.ctl rfl (fun _ => stepG_loop) ?_
  | refine Seg.ctl rfl (fun _ => stepG_inLoop) ?_
  | refine Seg.ctl rfl (fun _ => stepG_skip) ?_
  first
  | refine Seg.ctl rfl (fun _ => stepG_seq) ?_
  | refine Seg.ctl rfl (fun _ => stepG_region_end) ?_
  | (refine Seg.ctl rfl (fun _ => stepG_region) ?_; simp only [List.size_toArray, List.length_cons, List.length_nil, Nat.reduceAdd, Nat.zero_add, List.range, List.range.loop])
  | refine Seg.ctl rfl (fun _ => stepG_block) ?_
  | refine Seg.ctl rfl (fun _ => stepG_inBlock) ?_
  | refine Seg.ctl rfl (fun _ => stepG_ret') ?_
  | refine Seg.ctl rfl (fun _ => stepG_loop) ?_
  | refine Seg.ctl rfl (fun _ => stepG_inLoop) ?_
  | refine Seg.ctl rfl (fun _ => stepG_skip) ?_
  refine Seg.pu (Pu.bin (v := .bool false) (m := N) (l := N) rfl (by simp [ev_put_ne, ev_put_eq, ev_const, sz_put, S.size, S.t0, S.t1, S.t2, S.t6, S.t7]) (by simp [ev_put_ne, ev_put_eq, ev_const, sz_put, S.size, S.t0, S.t1, S.t2, S.t6, S.t7]) (by rw [bin_lss, decide_eq_false]; omega)) rfl rfl (by decide) ?_
  simp only [List.getElem_toArray, List.getElem_cons_succ, List.getElem_cons_zero, ev_put_none]
  first
  | refine Seg.ctl rfl (fun _ => stepG_seq) ?_
  | refine Seg.ctl rfl (fun _ => stepG_region_end) ?_
  | (refine Seg.ctl rfl (fun _ => stepG_region) ?_; simp only [List.size_toArray, List.length_cons, List.length_nil, Nat.reduceAdd, Nat.zero_add, List.range, List.range.loop])
  | refine Seg.ctl rfl (fun _ => stepG_block) ?_
  | refine Seg.ctl rfl (fun _ => stepG_inBlock) ?_
  | refine Seg.ctl rfl (fun _ => stepG_ret') ?_
  | refine Seg.ctl rfl (fun _ => stepG_loop) ?_
  | refine Seg.ctl rfl (fun _ => stepG_inLoop) ?_
  | refine Seg.ctl rfl (fun _ => stepG_skip) ?_
  first
  | refine Seg.ctl rfl (fun _ => stepG_seq) ?_
  | refine Seg.ctl rfl (fun _ => stepG_region_end) ?_
  | (refine Seg.ctl rfl (fun _ => stepG_region) ?_; simp only [List.size_toArray, List.length_cons, List.length_nil, Nat.reduceAdd, Nat.zero_add, List.range, List.range.loop])
  | refine Seg.ctl rfl (fun _ => stepG_block) ?_
  | refine Seg.ctl rfl (fun _ => stepG_inBlock) ?_
  | refine Seg.ctl rfl (fun _ => stepG_ret') ?_
  | refine Seg.ctl rfl (fun _ => stepG_loop) ?_
  | refine Seg.ctl rfl (fun _ => stepG_inLoop) ?_
  | refine Seg.ctl rfl (fun _ => stepG_skip) ?_
  refine Seg.ctl rfl (fun _ => stepG_cond (t := false) (by simp [ev_put_ne, ev_put_eq, ev_const, sz_put, S.size, S.t0, S.t1, S.t2, S.t6, S.t7])) ?_
  simp only [if_false, Bool.false_eq_true]
  subst hL
  refine Seg.ctl rfl (fun _ => stepG_exit (k' := [.code tailW]) rfl) ?_
  obtain ⟨R, hR⟩ : ∃ R, Item.code tailW = R := ⟨_, rfl⟩
  rw [hR]
  simp only [tailW, bodyW, Try.f34, Option.getD_some] at hR
  subst hR
  obtain ⟨a1, c1, a2, c2, xs1, xs2, K, h1, h2⟩ := nowW_sl W
  first
  | refine Seg.ctl rfl (fun _ => stepG_seq) ?_
  | refine Seg.ctl rfl (fun _ => stepG_region_end) ?_
  | (refine Seg.ctl rfl (fun _ => stepG_region) ?_; simp only [List.size_toArray, List.length_cons, List.length_nil, Nat.reduceAdd, Nat.zero_add, List.range, List.range.loop])
  | refine Seg.ctl rfl (fun _ => stepG_block) ?_
  | refine Seg.ctl rfl (fun _ => stepG_inBlock) ?_
  | refine Seg.ctl rfl (fun _ => stepG_ret') ?_
  | refine Seg.ctl rfl (fun _ => stepG_loop) ?_
  | refine Seg.ctl rfl (fun _ => stepG_inLoop) ?_
  | refine Seg.ctl rfl (fun _ => stepG_skip) ?_
  first
  | refine Seg.ctl rfl (fun _ => stepG_seq) ?_
  | refine Seg.ctl rfl (fun _ => stepG_region_end) ?_
  | (refine Seg.ctl rfl (fun _ => stepG_region) ?_; simp only [List.size_toArray, List.length_cons, List.length_nil, Nat.reduceAdd, Nat.zero_add, List.range, List.range.loop])
  | refine Seg.ctl rfl (fun _ => stepG_block) ?_
  | refine Seg.ctl rfl (fun _ => stepG_inBlock) ?_
  | refine Seg.ctl rfl (fun _ => stepG_ret') ?_
  | refine Seg.ctl rfl (fun _ => stepG_loop) ?_
  | refine Seg.ctl rfl (fun _ => stepG_inLoop) ?_
  | refine Seg.ctl rfl (fun _ => stepG_skip) ?_
  refine Seg.load D.cn (A := ⟨kn, 0, none⟩) (vs := [.slice a1 n1 c1, .slice a2 n2 c2]) rfl rfl (by decide) rfl (by simp [ev_put_ne, ev_put_eq, ev_const, sz_put, S.size, S.t0, S.t1, S.t2, S.t6, S.t7]) (.agg Try.underlying32 rfl Try.type32 rfl (by simp)) (K.cks rfl) ?_
  simp only [List.getElem_toArray, List.getElem_cons_succ, List.getElem_cons_zero, ev_put_none]
  refine Seg.le (Seg.callO (n := 300) (vs := #[.agg #[.slice a1 n1 c1, .slice a2 n2 c2]]) rfl rfl (by decide) rfl Try.func14 (by kernel_rfl) rfl (by simp [ev_put_ne, ev_put_eq, ev_const, sz_put, S.size, S.t0, S.t1, S.t2, S.t6, S.t7]) (deltaMany_o D.cn W.old.size a1 a2 n1 c1 n2 c2 (by omega)) fun v w1 o1 h => ?_) (by omega)
  obtain ⟨rfl, r⟩ := h
  have W := nowW_rx D.cn W r
  have K := K.rx r (by simp)
  clear r h1 h2
  simp only [List.getElem_toArray, List.getElem_cons_succ, List.getElem_cons_zero, ev_put_none]
  refine Seg.pu (Pu.bin (v := .bool true) (m := (n1 : Int) + n2) (l := 0) rfl (by simp [ev_put_ne, ev_put_eq, ev_const, sz_put, S.size, S.t0, S.t1, S.t2, S.t6, S.t7]) (by simp [ev_put_ne, ev_put_eq, ev_const, sz_put, S.size, S.t0, S.t1, S.t2, S.t6, S.t7]) (by rw [bin_gtr, decide_eq_true]; omega)) rfl rfl (by decide) ?_
  simp only [List.getElem_toArray, List.getElem_cons_succ, List.getElem_cons_zero, ev_put_none]
  first
  | refine Seg.ctl rfl (fun _ => stepG_seq) ?_
  | refine Seg.ctl rfl (fun _ => stepG_region_end) ?_
  | (refine Seg.ctl rfl (fun _ => stepG_region) ?_; simp only [List.size_toArray, List.length_cons, List.length_nil, Nat.reduceAdd, Nat.zero_add, List.range, List.range.loop])
  | refine Seg.ctl rfl (fun _ => stepG_block) ?_
  | refine Seg.ctl rfl (fun _ => stepG_inBlock) ?_
  | refine Seg.ctl rfl (fun _ => stepG_ret') ?_
  | refine Seg.ctl rfl (fun _ => stepG_loop) ?_
  | refine Seg.ctl rfl (fun _ => stepG_inLoop) ?_
  | refine Seg.ctl rfl (fun _ => stepG_skip) ?_
  refine Seg.ctl rfl (fun _ => stepG_cond (t := true) (by simp [ev_put_ne, ev_put_eq, ev_const, sz_put, S.size, S.t0, S.t1, S.t2, S.t6, S.t7])) ?_
  simp only [if_true]
  first
  | refine Seg.ctl rfl (fun _ => stepG_seq) ?_
  | refine Seg.ctl rfl (fun _ => stepG_region_end) ?_
  | (refine Seg.ctl rfl (fun _ => stepG_region) ?_; simp only [List.size_toArray, List.length_cons, List.length_nil, Nat.reduceAdd, Nat.zero_add, List.range, List.range.loop])
  | refine Seg.ctl rfl (fun _ => stepG_block) ?_
  | refine Seg.ctl rfl (fun _ => stepG_inBlock) ?_
  | refine Seg.ctl rfl (fun _ => stepG_ret') ?_
  | refine Seg.ctl rfl (fun _ => stepG_loop) ?_
  | refine Seg.ctl rfl (fun _ => stepG_inLoop) ?_
  | refine Seg.ctl rfl (fun _ => stepG_skip) ?_
  refine Seg.load D.cn (A := ⟨bm, 0, none⟩) (vs := [.chan (some c)]) rfl rfl (by decide) rfl (by simp [ev_put_ne, ev_put_eq, ev_const, sz_put, S.size, S.t0, S.t1, S.t2, S.t6, S.t7]) (.one Try.underlying60 rfl) (ck1 (D.msg.ck W.old)) ?_
  simp only [List.getElem_toArray, List.getElem_cons_succ, List.getElem_cons_zero, ev_put_none]
  refine Seg.load D.cn (A := ⟨kn, 0, none⟩) (vs := [.slice a1 n1 c1, .slice a2 n2 c2]) rfl rfl (by decide) rfl (by simp [ev_put_ne, ev_put_eq, ev_const, sz_put, S.size, S.t0, S.t1, S.t2, S.t6, S.t7]) (.agg Try.underlying32 rfl Try.type32 rfl (by simp)) (K.cks rfl) ?_
  simp only [List.getElem_toArray, List.getElem_cons_succ, List.getElem_cons_zero, ev_put_none]
  exact Seg.done ⟨_, .agg #[.slice a1 n1 c1, .slice a2 n2 c2], rfl, ⟨by simp [sz_put, S.size], by simpa [df_put] using S.defers, (by simp [ev_put_ne, ev_put_eq, ev_const, sz_put, S.size, S.t0, S.t1, S.t2, S.t6, S.t7]), (by simp [ev_put_ne, ev_put_eq, ev_const, sz_put, S.size, S.t0, S.t1, S.t2, S.t6, S.t7]), (by simp [ev_put_ne, ev_put_eq, ev_const, sz_put, S.size, S.t0, S.t1, S.t2, S.t6, S.t7]), (by simp [ev_put_ne, ev_put_eq, ev_const, sz_put, S.size, S.t0, S.t1, S.t2, S.t6, S.t7]), (by simp [ev_put_ne, ev_put_eq, ev_const, sz_put, S.size, S.t0, S.t1, S.t2, S.t6, S.t7])⟩, (by simp [ev_put_ne, ev_put_eq, ev_const, sz_put, S.size, S.t0, S.t1, S.t2, S.t6, S.t7]), (by simp [ev_put_ne, ev_put_eq, ev_const, sz_put, S.size, S.t0, S.t1, S.t2, S.t6, S.t7]), _, _, _, _, _, _, rfl⟩
set_option maxRecDepth 100000 in
theorem exit_none (D : DataO nf c w0 bm bd s1 s2 N1 N2) {a : Act} (S : SlotsW a c bm bd kn N N) (W : NowW nf c w0 w o kn n1 n2) (hpos : n1 + n2 = 0) :
    Seg Try.prog nf c false (fun g' w' o' => ∃ a', g' = retW a' ∧ SlotsW a' c bm bd kn N N) 500 (headW a) w o := by
  simp only [headW, retW]
  generalize hL : Item.inLoop loopW = IL
  obtain ⟨R, hR⟩ : ∃ R, Item.code loopW = R := ⟨_, rfl⟩
  rw [hR]
  simp only [loopW, bodyW, Try.f34, Option.getD_some] at hR
  subst hR
  first
  | refine Seg.ctl rfl (fun _ => stepG_seq) ?_
  | refine Seg.ctl rfl (fun _ => stepG_region_end) ?_
  | (refine Seg.ctl rfl (fun _ => stepG_region) ?_; simp only [List.size_toArray, List.length_cons, List.length_nil, Nat.reduceAdd, Nat.zero_add, List.range, List.range.loop])
  | refine Seg.ctl rfl (fun _ => stepG_block) ?_
  | refine Seg.ctl rfl (fun _ => stepG_inBlock) ?_
  | refine Seg.ctl rfl (fun _ => stepG_ret') ?_
  | refine Seg.ctl rfl (fun _ => stepG_loop) ?_
  | refine Seg.ctl rfl (fun _ => stepG_inLoop) ?_
  | refine Seg.ctl rfl (fun _ => stepG_skip) ?_
  first
  | refine Seg.ctl rfl (fun _ => stepG_seq) ?_
  | refine Seg.ctl rfl (fun _ => stepG_region_end) ?_
  | (refine Seg.ctl rfl (fun _ => stepG_region) ?_; simp only [List.size_toArray, List.length_cons, List.length_nil, Nat.reduceAdd, Nat.zero_add, List.range, List.range.loop])
  | refine Seg.ctl rfl (fun _ => stepG_block) ?_
  | refine Seg.ctl rfl (fun _ => stepG_inBlock) ?_
  | refine Seg.ctl rfl (fun _ => stepG_ret') ?_
  | refine Seg.ctl rfl (fun _ => stepG_loop) ?_
  | refine Seg.ctl rfl (fun _ => stepG_inLoop) ?_
  | refine Seg.ctl rfl (fun _ => stepG_skip) ?_
  refine Seg.pu (Pu.bin (v := .bool false) (m := N) (l := N) rfl (by simp [ev_put_ne, ev_put_eq, ev_const, sz_put, S.size, S.t0, S.t1, S.t2, S.t6, S.t7]) (by simp [ev_put_ne, ev_put_eq, ev_const, sz_put, S.size, S.t0, S.t1, S.t2, S.t6, S.t7]) (by rw [bin_lss, decide_eq_false]; omega)) rfl rfl (by decide) ?_
  simp only [List.getElem_toArray, List.getElem_cons_succ, List.getElem_cons_zero, ev_put_none]
  first
  | refine Seg.ctl rfl (fun _ => stepG_seq) ?_
  | refine Seg.ctl rfl (fun _ => stepG_region_end) ?_
  | (refine Seg.ctl rfl (fun _ => stepG_region) ?_; simp only [List.size_toArray, List.length_cons, List.length_nil, Nat.reduceAdd, Nat.zero_add, List.range, List.range.loop])
  | refine Seg.ctl rfl (fun _ => stepG_block) ?_
  | refine Seg.ctl rfl (fun _ => stepG_inBlock) ?_
  | refine Seg.ctl rfl (fun _ => stepG_ret') ?_
  | refine Seg.ctl rfl (fun _ => stepG_loop) ?_
  | refine Seg.ctl rfl (fun _ => stepG_inLoop) ?_
  | refine Seg.ctl rfl (fun _ => stepG_skip) ?_
  first
  | refine Seg.ctl rfl (fun _ => stepG_seq) ?_
  | refine Seg.ctl rfl (fun _ => stepG_region_end) ?_
  | (refine Seg.ctl rfl (fun _ => stepG_region) ?_; simp only [List.size_toArray, List.length_cons, List.length_nil, Nat.reduceAdd, Nat.zero_add, List.range, List.range.loop])
  | refine Seg.ctl rfl (fun _ => stepG_block) ?_
  | refine Seg.ctl rfl (fun _ => stepG_inBlock) ?_
  | refine Seg.ctl rfl (fun _ => stepG_ret') ?_
  | refine Seg.ctl rfl (fun _ => stepG_loop) ?_
  | refine Seg.ctl rfl (fun _ => stepG_inLoop) ?_
  | refine Seg.ctl rfl (fun _ => stepG_skip) ?_
  refine Seg.ctl rfl (fun _ => stepG_cond (t := false) (by simp [ev_put_ne, ev_put_eq, ev_const, sz_put, S.size, S.t0, S.t1, S.t2, S.t6, S.t7])) ?_
  simp only [if_false, Bool.false_eq_true]
  subst hL
  refine Seg.ctl rfl (fun _ => stepG_exit (k' := [.code tailW]) rfl) ?_
  obtain ⟨R, hR⟩ : ∃ R, Item.code tailW = R := ⟨_, rfl⟩
  rw [hR]
  simp only [tailW, bodyW, Try.f34, Option.getD_some] at hR
  subst hR
  obtain ⟨a1, c1, a2, c2, xs1, xs2, K, h1, h2⟩ := nowW_sl W
  first
  | refine Seg.ctl rfl (fun _ => stepG_seq) ?_
  | refine Seg.ctl rfl (fun _ => stepG_region_end) ?_
  | (refine Seg.ctl rfl (fun _ => stepG_region) ?_; simp only [List.size_toArray, List.length_cons, List.length_nil, Nat.reduceAdd, Nat.zero_add, List.range, List.range.loop])
  | refine Seg.ctl rfl (fun _ => stepG_block) ?_
  | refine Seg.ctl rfl (fun _ => stepG_inBlock) ?_
  | refine Seg.ctl rfl (fun _ => stepG_ret') ?_
  | refine Seg.ctl rfl (fun _ => stepG_loop) ?_
  | refine Seg.ctl rfl (fun _ => stepG_inLoop) ?_
  | refine Seg.ctl rfl (fun _ => stepG_skip) ?_
  first
  | refine Seg.ctl rfl (fun _ => stepG_seq) ?_
  | refine Seg.ctl rfl (fun _ => stepG_region_end) ?_
  | (refine Seg.ctl rfl (fun _ => stepG_region) ?_; simp only [List.size_toArray, List.length_cons, List.length_nil, Nat.reduceAdd, Nat.zero_add, List.range, List.range.loop])
  | refine Seg.ctl rfl (fun _ => stepG_block) ?_
  | refine Seg.ctl rfl (fun _ => stepG_inBlock) ?_
  | refine Seg.ctl rfl (fun _ => stepG_ret') ?_
  | refine Seg.ctl rfl (fun _ => stepG_loop) ?_
  | refine Seg.ctl rfl (fun _ => stepG_inLoop) ?_
  | refine Seg.ctl rfl (fun _ => stepG_skip) ?_
  refine Seg.load D.cn (A := ⟨kn, 0, none⟩) (vs := [.slice a1 n1 c1, .slice a2 n2 c2]) rfl rfl (by decide) rfl (by simp [ev_put_ne, ev_put_eq, ev_const, sz_put, S.size, S.t0, S.t1, S.t2, S.t6, S.t7]) (.agg Try.underlying32 rfl Try.type32 rfl (by simp)) (K.cks rfl) ?_
  simp only [List.getElem_toArray, List.getElem_cons_succ, List.getElem_cons_zero, ev_put_none]
  refine Seg.le (Seg.callO (n := 300) (vs := #[.agg #[.slice a1 n1 c1, .slice a2 n2 c2]]) rfl rfl (by decide) rfl Try.func14 (by kernel_rfl) rfl (by simp [ev_put_ne, ev_put_eq, ev_const, sz_put, S.size, S.t0, S.t1, S.t2, S.t6, S.t7]) (deltaMany_o D.cn W.old.size a1 a2 n1 c1 n2 c2 (by omega)) fun v w1 o1 h => ?_) (by omega)
  obtain ⟨rfl, r⟩ := h
  have W := nowW_rx D.cn W r
  have K := K.rx r (by simp)
  clear r h1 h2
  simp only [List.getElem_toArray, List.getElem_cons_succ, List.getElem_cons_zero, ev_put_none]
  refine Seg.pu (Pu.bin (v := .bool false) (m := (n1 : Int) + n2) (l := 0) rfl (by simp [ev_put_ne, ev_put_eq, ev_const, sz_put, S.size, S.t0, S.t1, S.t2, S.t6, S.t7]) (by simp [ev_put_ne, ev_put_eq, ev_const, sz_put, S.size, S.t0, S.t1, S.t2, S.t6, S.t7]) (by rw [bin_gtr, decide_eq_false]; omega)) rfl rfl (by decide) ?_
  simp only [List.getElem_toArray, List.getElem_cons_succ, List.getElem_cons_zero, ev_put_none]
  first
  | refine Seg.ctl rfl (fun _ => stepG_seq) ?_
  | refine Seg.ctl rfl (fun _ => stepG_region_end) ?_
  | (refine Seg.ctl rfl (fun _ => stepG_region) ?_; simp only [List.size_toArray, List.length_cons, List.length_nil, Nat.reduceAdd, Nat.zero_add, List.range, List.range.loop])
  | refine Seg.ctl rfl (fun _ => stepG_block) ?_
  | refine Seg.ctl rfl (fun _ => stepG_inBlock) ?_
  | refine Seg.ctl rfl (fun _ => stepG_ret') ?_
  | refine Seg.ctl rfl (fun _ => stepG_loop) ?_
  | refine Seg.ctl rfl (fun _ => stepG_inLoop) ?_
  | refine Seg.ctl rfl (fun _ => stepG_skip) ?_
  refine Seg.ctl rfl (fun _ => stepG_cond (t := false) (by simp [ev_put_ne, ev_put_eq, ev_const, sz_put, S.size, S.t0, S.t1, S.t2, S.t6, S.t7])) ?_
  simp only [if_false, Bool.false_eq_true]
  first
  | refine Seg.ctl rfl (fun _ => stepG_seq) ?_
  | refine Seg.ctl rfl (fun _ => stepG_region_end) ?_
  | (refine Seg.ctl rfl (fun _ => stepG_region) ?_; simp only [List.size_toArray, List.length_cons, List.length_nil, Nat.reduceAdd, Nat.zero_add, List.range, List.range.loop])
  | refine Seg.ctl rfl (fun _ => stepG_block) ?_
  | refine Seg.ctl rfl (fun _ => stepG_inBlock) ?_
  | refine Seg.ctl rfl (fun _ => stepG_ret') ?_
  | refine Seg.ctl rfl (fun _ => stepG_loop) ?_
  | refine Seg.ctl rfl (fun _ => stepG_inLoop) ?_
  | refine Seg.ctl rfl (fun _ => stepG_skip) ?_
  refine Seg.ctl rfl (fun _ => stepG_end) ?_
  exact Seg.done ⟨_, rfl, ⟨by simp [sz_put, S.size], by simpa [df_put] using S.defers, (by simp [ev_put_ne, ev_put_eq, ev_const, sz_put, S.size, S.t0, S.t1, S.t2, S.t6, S.t7]), (by simp [ev_put_ne, ev_put_eq, ev_const, sz_put, S.size, S.t0, S.t1, S.t2, S.t6, S.t7]), (by simp [ev_put_ne, ev_put_eq, ev_const, sz_put, S.size, S.t0, S.t1, S.t2, S.t6, S.t7]), (by simp [ev_put_ne, ev_put_eq, ev_const, sz_put, S.size, S.t0, S.t1, S.t2, S.t6, S.t7]), (by simp [ev_put_ne, ev_put_eq, ev_const, sz_put, S.size, S.t0, S.t1, S.t2, S.t6, S.t7])⟩⟩
theorem after_last {a : Act} (S : SlotsW a c bm bd kn N N) : Seg Try.prog nf c false (fun g' w' o' => ∃ a', g' = retW a' ∧ SlotsW a' c bm bd kn N N) 2 (sendT [] a) w o := by
  refine Seg.ctl rfl (fun _ => stepG_region_end) ?_
  refine Seg.ctl rfl (fun _ => stepG_end) ?_
  exact Seg.done ⟨_, rfl, S⟩
end
end Go.Proofs.Ytjkfnjjkjhggfaa
set_option linter.unusedSimpArgs false
set_option linter.unusedVariables false
namespace Go.Proofs.Ytjkfnjjkjhggfaa
open Go.Conc Go.RowKit

section
variable {nf c bm bd kn N k n1 n2 N1 N2 : Nat} {w0 w : World} {o : Who} {s1 s2 : Value} {Fact : List Value → World → Who → Prop} {done : List Value}
theorem quitsW (a : Act) (hd : a.defers = []) : QuitsIn Try.prog 2 (retW a) := by
  refine .inr ⟨rfl, G botW [], fun w => ?_, ?_⟩
  · simp [G, stepG, unwind, doReturn, results, Frame.at, baseD, botW, Try.func34, Try.f34, seen, GStep.after, goexitEntry, hd]
  refine .inr ⟨rfl, { G botW [] with status := .finished }, fun w => ?_, rfl⟩
  simp [G, stepG, unwind, botW, goexitEntry, Frame.catches]
  rfl
theorem close_step {a : Act} {ty : TypeId} {cs : Array Bool} (hd : a.defers = [{ target := .builtin .close #[60] ty cs, args := #[.chan (some c)] }]) {buf : Array Value} {s r : Nat} {tm : Bool} (hc : w.heap[c]? = some (.chan 3 buf false s r tm)) :
    stepG Try.prog false (retW a) w = .go (retW ⟨a.tmps, []⟩) (w.setChan c 3 buf true s r tm) #[⟨.obj c, false, true⟩, ⟨.obj c, true, true⟩] := by
  have h1 := run_close_open (P := Try.prog) #[60] ty hc
  have h2 := events_close_open (P := Try.prog) (es := #[]) #[60] ty hc
  have hl : seen Try.prog 34 #[⟨.obj c, false, true⟩, ⟨.obj c, true, true⟩] = #[⟨.obj c, false, true⟩, ⟨.obj c, true, true⟩] := seen_eq (by simp [Try.func34, Try.f34]) (by simp)
  simp [G, stepG, unwind, callDeferred, Frame.at, baseD, hd, invoke, builtin, h1, h2, GStep.after, hl, World.setChan]
theorem atClose (hcn : c < nf) {a : Act} (S : SlotsW a c bm bd kn N N) (hF : Fact done w o) : AtCloseO Try.prog nf c 3 Fact done (retW a) w o := by
  obtain ⟨ty, cs, hd⟩ := S.defers
  refine ⟨rfl, rfl, hF, retW ⟨a.tmps, []⟩, #[⟨.obj c, false, true⟩], 2, fun buf s r tm hc => ?_, fun e he => ?_, quitsW _ rfl⟩
  · rw [close_step hd hc]
    rfl
  · simp at he
    subst he
    exact .inr rfl
abbrev NoFact : List Value → World → Who → Prop := fun _ _ _ => True
theorem atSend9 (D : DataO nf c w0 bm bd s1 s2 N1 N2) {a : Act} {v : Value} {Next : Value → Goroutine → World → Who → Prop} (hx : a.eval (.tmp 43) = .chan (some c)) (hy : a.eval (.tmp 44) = v) (hv : Vmsg v) (next : ∀ w1 o1, RO nf c false w o w1 o1 → Next v (sendW [] a) w1 o1) : AtSendO Try.prog nf c Vmsg Next (sendW [2] a) w o :=
  atSendO_of rfl rfl (by decide) rfl hx hy hv next
theorem atSend13 (D : DataO nf c w0 bm bd s1 s2 N1 N2) {a : Act} {v : Value} {Next : Value → Goroutine → World → Who → Prop} (hx : a.eval (.tmp 50) = .chan (some c)) (hy : a.eval (.tmp 51) = v) (hv : Vmsg v) (next : ∀ w1 o1, RO nf c false w o w1 o1 → Next v (sendT [] a) w1 o1) : AtSendO Try.prog nf c Vmsg Next (sendT [2] a) w o :=
  atSendO_of rfl rfl (by decide) rfl hx hy hv next
theorem sends_head (D : DataO nf c w0 bm bd s1 s2 N1 N2) (hN : N = N1 + N2) : ∀ r, ∃ n, ∀ (kn k n1 n2 : Nat) (a : Act) (w : World) (o : Who) (done : List Value), k + r = N → n1 + n2 ≤ 2 → SlotsW a c bm bd kn N k → NowW nf c w0 w o kn n1 n2 →
    GoesO Try.prog nf c false (StopS Try.prog nf c 3 Vmsg NoFact ((r + (n1 + n2) + 2) / 3) done) n (headW a) w o := by
  intro r
  induction r with
  | zero =>
    refine ⟨0 + 500, fun kn k n1 n2 a w o done hk hm S W => ?_⟩
    obtain rfl : k = N := by omega
    by_cases h0 : n1 + n2 = 0
    · rw [show (0 + (n1 + n2) + 2) / 3 = 0 by omega]
      refine exit_none D S W h0 _ 0 ?_
      rintro _ w1 o1 ⟨a1, rfl, S1⟩ w2 o2 r2
      exact atClose D.cn S1 trivial
    · rw [show (0 + (n1 + n2) + 2) / 3 = 0 + 1 by omega]
      refine exit_send D S W (by omega) (by omega) _ 0 ?_
      rintro _ w1 o1 ⟨a1, v, rfl, S1, hx, hy, hv⟩ w2 o2 r2
      refine atSend13 D hx hy hv fun w3 o3 r3 => ?_
      refine ⟨0 + 2, after_last S1 _ 0 ?_⟩
      rintro _ w4 o4 ⟨a4, rfl, S4⟩ w5 o5 r5
      exact atClose D.cn S4 trivial
  | succ r ih =>
    obtain ⟨nr, ih⟩ := ih
    refine ⟨nr + 400 + 400 + 16000, fun kn k n1 n2 a w o done hk hm S W => ?_⟩
    have mid : ∀ {n1 n2 a w o}, n1 + n2 ≤ 3 → 0 < n1 + n2 → SlotsW a c bm bd kn N k → NowW nf c w0 w o kn n1 n2 → GoesO Try.prog nf c false (StopS Try.prog nf c 3 Vmsg NoFact ((r + (n1 + n2) + 2) / 3) done) (nr + 400 + 400) (midW a) w o := by
      intro n1 n2 a w o hm hp S W
      by_cases h3 : n1 + n2 = 3
      · rw [show (r + (n1 + n2) + 2) / 3 = (r + (0 + 0) + 2) / 3 + 1 by omega]
        refine rest_yes D S W hN (by omega) h3 _ _ ?_
        rintro _ w1 o1 ⟨a1, v, rfl, S1, W1, hx, hy, hv⟩
        refine GoesO.le (n := 0) (fun w2 o2 r2 => ?_) (Nat.zero_le _)
        refine atSend9 D hx hy hv fun w3 o3 r3 => ?_
        refine (sendsO_iff ..).2 ⟨nr + 400, ?_⟩
        refine after_send D S1 (nowW_rx D.cn (nowW_rx D.cn W1 (r2.rx none)) (r3.rx none)) hN (by omega) _ nr ?_
        rintro _ w4 o4 ⟨a4, rfl, S4, W4⟩
        exact ih kn (k + 1) 0 0 a4 w4 o4 _ (by omega) (by omega) S4 W4
      · refine GoesO.le (n := nr + 400) ?_ (by omega)
        refine rest_no D S W hN (by omega) h3 (by omega) _ nr ?_
        rintro _ w1 o1 ⟨a1, rfl, S1, W1⟩
        exact ih kn (k + 1) n1 n2 a1 w1 o1 _ (by omega) (by omega) S1 W1
    by_cases hk1 : k < N1
    · refine GoesO.le (n := nr + 400 + 400 + 2000) ?_ (by omega)
      refine round_drop D S W hN hk1 (by omega) _ _ ?_
      rintro _ w1 o1 ⟨a1, rfl, S1, W1⟩
      have := mid (by omega) (by omega) S1 W1
      rwa [show r + (n1 + 1 + n2) + 2 = r + 1 + (n1 + n2) + 2 by omega] at this
    · refine round_tell D S W hN (by omega) (by omega) (by omega) _ _ ?_
      rintro _ w1 o1 ⟨a1, rfl, S1, W1⟩
      have := mid (by omega) (by omega) S1 W1
      rwa [show r + (n1 + (n2 + 1)) + 2 = r + 1 + (n1 + n2) + 2 by omega] at this
end
end Go.Proofs.Ytjkfnjjkjhggfaa
