/- The worker of impl.DeltaCut: its stops, and the ways between them. The worker of impl.DeltaCut: the close; what it sends. The worker of impl.DeltaCut from its first step. -/
import Derived.Test.YtjkfnjjkjhggfaaZ29
import Derived.Test.YtjkfnjjkjhggfaaZ20
import Derived.Conc.EventLaws
set_option linter.unusedSimpArgs false
set_option linter.unusedVariables false
namespace Go.Proofs.Ytjkfnjjkjhggfaa
open Go.Conc Go.RowKit

noncomputable def ops9 : Array Oper := match restW with | .seq _ (.cond _ (.seq (.region _ ops _) _) _) => ops | _ => #[]
noncomputable def code10 : Code := match restW with | .seq _ (.cond _ (.seq _ r) _) => r | _ => .skip
noncomputable def ops13 : Array Oper := match tailW with | .seq _ (.cond _ (.region _ ops _) _) => ops | _ => #[]
theorem build_zero (w : World) : (Instr.build 32 #[]).run Try.prog w = .ok (.agg #[.slice none 0 0, .slice none 0 0]) w := by kernel_rfl
theorem build_zero_ev (w : World) : (Instr.build 32 #[]).events Try.prog w #[] = #[] := by kernel_rfl
theorem pu_zero {a : Act} {op : Oper} (hop : op.op = .build 32 #[]) : Pu Try.prog a op (.agg #[.slice none 0 0, .slice none 0 0]) := fun w => by
  unfold execOp
  simp [hop, build_zero w, build_zero_ev w]
/-- What is sent. -/
def Vmsg (v : Value) : Prop := ∃ a1 n1 c1 a2 n2 c2, v = .agg #[.slice a1 n1 c1, .slice a2 n2 c2]
section
variable {nf c bm bd kn N k n1 n2 N1 N2 : Nat} {w0 w : World} {o : Who} {s1 s2 : Value} {Ds : List (Int × Int)} {Ls : List (Int × Int × Int × List Int × List Int)} {C C' : Ctn}
noncomputable abbrev sendW (is : List Nat) (a : Act) : Goroutine := G ((baseD 34).at a [.inRegion ops9 is, .code code10, .inBlock 1, .code incW, .inLoop loopW, .inBlock 0, .code tailW]) [botW]
noncomputable abbrev sendT (is : List Nat) (a : Act) : Goroutine := G ((baseD 34).at a [.inRegion ops13 is]) [botW]
noncomputable abbrev retW (a : Act) : Goroutine := G { (baseD 34).at a [] with mode := .returning } [botW]
/-- All that stands, and the two rows. -/
theorem NowV.all {v1 v2 : Value} {xs1 xs2 : List Value} {M : List (Nat × Obj)} (hcn : c < nf) (W : NowV nf c w0 w o kn n1 n2 v1 v2 xs1 xs2 M) :
    ∃ M', (∀ x ∈ M, x ∈ M') ∧ KnM nf c w o M' ∧ (∀ p ∈ M', p.1 ≠ kn) ∧ ∀ w', HasM M' w' → w'.ownsRow nf 62 2 v1 n1 xs1 ∧ w'.ownsRow nf 64 5 v2 n2 xs2 := by
  obtain ⟨A, hA, hAb, hAT⟩ := W.h1.kn hcn
  obtain ⟨B, hB, hBb, hBT⟩ := W.h2.kn hcn
  refine ⟨M ++ A ++ B, fun x hx => List.mem_append_left _ (List.mem_append_left _ hx), (W.kM.app hA).app hB, fun p hp => ?_, fun w' hw => ⟨hAT w' hw.app.1.app.2, hBT w' hw.app.2⟩⟩
  rcases List.mem_append.1 hp with hp | hp
  · rcases List.mem_append.1 hp with hp | hp
    · exact (W.nM p hp).1
    · exact fun e => own_neO W.h1 (hAb p hp) (e ▸ W.K.eq) (by decide)
  · exact fun e => own_neO W.h2 (hBb p hp) (e ▸ W.K.eq) (by decide)
set_option maxRecDepth 100000 in
theorem rest_yes (D : DataO nf c w0 bm bd s1 s2 N1 N2 Ds Ls) {a : Act} (S : SlotsW a c bm bd kn N k) (W : NowW nf c w0 w o kn n1 n2 C) (hN : N = N1 + N2) (hk : k < N) (hne : n1 + n2 = 3) :
    Seg Try.prog nf c false (fun g' w' o' => ∃ a' v1 v2 xs1 xs2 M, g' = sendW [2] a' ∧ SlotsW a' c bm bd kn N k ∧ NowV nf c w0 w' o' kn n1 n2 v1 v2 xs1 xs2 M ∧ C xs1 xs2 M ∧ a'.eval (.tmp 43) = .chan (some c) ∧ a'.eval (.tmp 44) = .agg #[v1, v2] ∧ Vmsg (.agg #[v1, v2])) 400 (midW a) w o := by
  simp only [midW, sendW]
  obtain ⟨R, hR⟩ : ∃ R, Item.code restW = R := ⟨_, rfl⟩
  rw [hR]
  simp only [restW, loopW, bodyW, Try.f34, Option.getD_some] at hR
  subst hR
  obtain ⟨v1, v2, xs1, xs2, M, W, hC⟩ := W
  obtain ⟨a1, c1, rfl⟩ := W.h1.sl
  obtain ⟨a2, c2, rfl⟩ := W.h2.sl
  have K := W.K
  first
  | refine Seg.ctl rfl (fun _ => stepG_seq) ?_
  | refine Seg.ctl rfl (fun _ => stepG_region_end) ?_
  | (refine Seg.ctl rfl (fun _ => stepG_region) ?_; simp only [List.size_toArray, List.length_cons, List.length_nil, Nat.reduceAdd, Nat.zero_add, List.range, List.range.loop])
  | refine Seg.ctl rfl (fun _ => stepG_block) ?_
  | refine Seg.ctl rfl (fun _ => stepG_inBlock) ?_
  | refine Seg.ctl rfl (fun _ => stepG_ret') ?_
  | refine Seg.ctl rfl (fun _ => stepG_loop) ?_
  | refine Seg.ctl rfl (fun _ => stepG_inLoop) ?_
  | refine Seg.ctl rfl (fun _ => stepG_skip) ?_
  first
  | refine Seg.ctl rfl (fun _ => stepG_seq) ?_
  | refine Seg.ctl rfl (fun _ => stepG_region_end) ?_
  | (refine Seg.ctl rfl (fun _ => stepG_region) ?_; simp only [List.size_toArray, List.length_cons, List.length_nil, Nat.reduceAdd, Nat.zero_add, List.range, List.range.loop])
  | refine Seg.ctl rfl (fun _ => stepG_block) ?_
  | refine Seg.ctl rfl (fun _ => stepG_inBlock) ?_
  | refine Seg.ctl rfl (fun _ => stepG_ret') ?_
  | refine Seg.ctl rfl (fun _ => stepG_loop) ?_
  | refine Seg.ctl rfl (fun _ => stepG_inLoop) ?_
  | refine Seg.ctl rfl (fun _ => stepG_skip) ?_
  refine Seg.load D.cn (A := ⟨kn, 0, none⟩) (vs := [.slice a1 n1 c1, .slice a2 n2 c2]) rfl rfl (by decide) rfl (by simp [ev_put_ne, ev_put_eq, ev_const, sz_put, S.size, S.t0, S.t1, S.t2, S.t6, S.t7]) (.agg Try.underlying32 rfl Try.type32 rfl (by simp)) (K.cks rfl) ?_
  simp only [List.getElem_toArray, List.getElem_cons_succ, List.getElem_cons_zero, ev_put_none]
  refine Seg.le (Seg.callO (n := 300) (vs := #[.agg #[.slice a1 n1 c1, .slice a2 n2 c2]]) rfl rfl (by decide) rfl Try.func14 (by kernel_rfl) rfl (by simp [ev_put_ne, ev_put_eq, ev_const, sz_put, S.size, S.t0, S.t1, S.t2, S.t6, S.t7]) (deltaMany_o D.cn W.old.size a1 a2 n1 c1 n2 c2 (by omega)) fun v w1 o1 h => ?_) (by omega)
  obtain ⟨rfl, r⟩ := h
  have W := W.rx D.cn r
  have K := W.K
  clear r
  simp only [List.getElem_toArray, List.getElem_cons_succ, List.getElem_cons_zero, ev_put_none]
  refine Seg.pu (Pu.bin (v := .bool true) (m := (n1 : Int) + n2) (l := 3) rfl (by simp [ev_put_ne, ev_put_eq, ev_const, sz_put, S.size, S.t0, S.t1, S.t2, S.t6, S.t7]) (by simp [ev_put_ne, ev_put_eq, ev_const, sz_put, S.size, S.t0, S.t1, S.t2, S.t6, S.t7]) (by rw [bin_eql, show ((n1 : Int) + n2) = 3 by omega]; rfl)) rfl rfl (by decide) ?_
  simp only [List.getElem_toArray, List.getElem_cons_succ, List.getElem_cons_zero, ev_put_none]
  first
  | refine Seg.ctl rfl (fun _ => stepG_seq) ?_
  | refine Seg.ctl rfl (fun _ => stepG_region_end) ?_
  | (refine Seg.ctl rfl (fun _ => stepG_region) ?_; simp only [List.size_toArray, List.length_cons, List.length_nil, Nat.reduceAdd, Nat.zero_add, List.range, List.range.loop])
  | refine Seg.ctl rfl (fun _ => stepG_block) ?_
  | refine Seg.ctl rfl (fun _ => stepG_inBlock) ?_
  | refine Seg.ctl rfl (fun _ => stepG_ret') ?_
  | refine Seg.ctl rfl (fun _ => stepG_loop) ?_
  | refine Seg.ctl rfl (fun _ => stepG_inLoop) ?_
  | refine Seg.ctl rfl (fun _ => stepG_skip) ?_
  refine Seg.ctl rfl (fun _ => stepG_cond (t := true) (by simp [ev_put_ne, ev_put_eq, ev_const, sz_put, S.size, S.t0, S.t1, S.t2, S.t6, S.t7])) ?_
  simp only [if_true]
  first
  | refine Seg.ctl rfl (fun _ => stepG_seq) ?_
  | refine Seg.ctl rfl (fun _ => stepG_region_end) ?_
  | (refine Seg.ctl rfl (fun _ => stepG_region) ?_; simp only [List.size_toArray, List.length_cons, List.length_nil, Nat.reduceAdd, Nat.zero_add, List.range, List.range.loop])
  | refine Seg.ctl rfl (fun _ => stepG_block) ?_
  | refine Seg.ctl rfl (fun _ => stepG_inBlock) ?_
  | refine Seg.ctl rfl (fun _ => stepG_ret') ?_
  | refine Seg.ctl rfl (fun _ => stepG_loop) ?_
  | refine Seg.ctl rfl (fun _ => stepG_inLoop) ?_
  | refine Seg.ctl rfl (fun _ => stepG_skip) ?_
  first
  | refine Seg.ctl rfl (fun _ => stepG_seq) ?_
  | refine Seg.ctl rfl (fun _ => stepG_region_end) ?_
  | (refine Seg.ctl rfl (fun _ => stepG_region) ?_; simp only [List.size_toArray, List.length_cons, List.length_nil, Nat.reduceAdd, Nat.zero_add, List.range, List.range.loop])
  | refine Seg.ctl rfl (fun _ => stepG_block) ?_
  | refine Seg.ctl rfl (fun _ => stepG_inBlock) ?_
  | refine Seg.ctl rfl (fun _ => stepG_ret') ?_
  | refine Seg.ctl rfl (fun _ => stepG_loop) ?_
  | refine Seg.ctl rfl (fun _ => stepG_inLoop) ?_
  | refine Seg.ctl rfl (fun _ => stepG_skip) ?_
  refine Seg.load D.cn (A := ⟨bm, 0, none⟩) (vs := [.chan (some c)]) rfl rfl (by decide) rfl (by simp [ev_put_ne, ev_put_eq, ev_const, sz_put, S.size, S.t0, S.t1, S.t2, S.t6, S.t7]) (.one Try.underlying60 rfl) (ck1 (D.msg.ck W.old)) ?_
  simp only [List.getElem_toArray, List.getElem_cons_succ, List.getElem_cons_zero, ev_put_none]
  refine Seg.load D.cn (A := ⟨kn, 0, none⟩) (vs := [.slice a1 n1 c1, .slice a2 n2 c2]) rfl rfl (by decide) rfl (by simp [ev_put_ne, ev_put_eq, ev_const, sz_put, S.size, S.t0, S.t1, S.t2, S.t6, S.t7]) (.agg Try.underlying32 rfl Try.type32 rfl (by simp)) (K.cks rfl) ?_
  simp only [List.getElem_toArray, List.getElem_cons_succ, List.getElem_cons_zero, ev_put_none]
  exact Seg.done ⟨_, _, _, _, _, _, rfl, ⟨by simp [sz_put, S.size], by simpa [df_put] using S.defers, (by simp [ev_put_ne, ev_put_eq, ev_const, sz_put, S.size, S.t0, S.t1, S.t2, S.t6, S.t7]), (by simp [ev_put_ne, ev_put_eq, ev_const, sz_put, S.size, S.t0, S.t1, S.t2, S.t6, S.t7]), (by simp [ev_put_ne, ev_put_eq, ev_const, sz_put, S.size, S.t0, S.t1, S.t2, S.t6, S.t7]), (by simp [ev_put_ne, ev_put_eq, ev_const, sz_put, S.size, S.t0, S.t1, S.t2, S.t6, S.t7]), (by simp [ev_put_ne, ev_put_eq, ev_const, sz_put, S.size, S.t0, S.t1, S.t2, S.t6, S.t7])⟩, W, hC, (by simp [ev_put_ne, ev_put_eq, ev_const, sz_put, S.size, S.t0, S.t1, S.t2, S.t6, S.t7]), (by simp [ev_put_ne, ev_put_eq, ev_const, sz_put, S.size, S.t0, S.t1, S.t2, S.t6, S.t7]), _, _, _, _, _, _, rfl⟩
set_option maxRecDepth 100000 in
theorem after_send (D : DataO nf c w0 bm bd s1 s2 N1 N2 Ds Ls) {a : Act} (S : SlotsW a c bm bd kn N k) {v1 v2 : Value} {xs1 xs2 : List Value} {M : List (Nat × Obj)} (W : NowV nf c w0 w o kn n1 n2 v1 v2 xs1 xs2 M) (hN : N = N1 + N2) (hk : k < N)
    (hC2 : ∀ M', (∀ x ∈ M, x ∈ M') → (∀ w', HasM M' w' → w'.ownsRow nf 62 2 v1 n1 xs1 ∧ w'.ownsRow nf 64 5 v2 n2 xs2) → C' [] [] M') :
    Seg Try.prog nf c false (fun g' w' o' => ∃ a', g' = headW a' ∧ SlotsW a' c bm bd kn N (k + 1) ∧ NowW nf c w0 w' o' kn 0 0 C') 400 (sendW [] a) w o := by
  simp only [sendW, headW]
  obtain ⟨R, hR⟩ : ∃ R, Item.code code10 = R := ⟨_, rfl⟩
  rw [hR]
  simp only [code10, restW, loopW, bodyW, Try.f34, Option.getD_some] at hR
  subst hR
  obtain ⟨R, hR⟩ : ∃ R, Item.code incW = R := ⟨_, rfl⟩
  rw [hR]
  simp only [incW, loopW, bodyW, Try.f34, Option.getD_some] at hR
  subst hR
  have K := W.K
  have hA := W.all D.cn
  first
  | refine Seg.ctl rfl (fun _ => stepG_seq) ?_
  | refine Seg.ctl rfl (fun _ => stepG_region_end) ?_
  | (refine Seg.ctl rfl (fun _ => stepG_region) ?_; simp only [List.size_toArray, List.length_cons, List.length_nil, Nat.reduceAdd, Nat.zero_add, List.range, List.range.loop])
  | refine Seg.ctl rfl (fun _ => stepG_block) ?_
  | refine Seg.ctl rfl (fun _ => stepG_inBlock) ?_
  | refine Seg.ctl rfl (fun _ => stepG_ret') ?_
  | refine Seg.ctl rfl (fun _ => stepG_loop) ?_
  | refine Seg.ctl rfl (fun _ => stepG_inLoop) ?_
  | refine Seg.ctl rfl (fun _ => stepG_skip) ?_
  first
  | refine Seg.ctl rfl (fun _ => stepG_seq) ?_
  | refine Seg.ctl rfl (fun _ => stepG_region_end) ?_
  | (refine Seg.ctl rfl (fun _ => stepG_region) ?_; simp only [List.size_toArray, List.length_cons, List.length_nil, Nat.reduceAdd, Nat.zero_add, List.range, List.range.loop])
  | refine Seg.ctl rfl (fun _ => stepG_block) ?_
  | refine Seg.ctl rfl (fun _ => stepG_inBlock) ?_
  | refine Seg.ctl rfl (fun _ => stepG_ret') ?_
  | refine Seg.ctl rfl (fun _ => stepG_loop) ?_
  | refine Seg.ctl rfl (fun _ => stepG_inLoop) ?_
  | refine Seg.ctl rfl (fun _ => stepG_skip) ?_
  refine Seg.pu (pu_zero rfl) rfl rfl (by decide) ?_
  simp only [List.getElem_toArray, List.getElem_cons_succ, List.getElem_cons_zero, ev_put_none]
  refine Seg.store (g := kn) (off := 0) (vs := [.slice none 0 0, .slice none 0 0]) D.cn rfl rfl (by decide) rfl (by simp [ev_put_ne, ev_put_eq, ev_const, sz_put, S.size, S.t0, S.t1, S.t2, S.t6, S.t7]) (by simp [ev_put_ne, ev_put_eq, ev_const, sz_put, S.size, Value.cells]) Try.type32 rfl (by simp [Value.oneCell']) K W.nk W.mine (by simp) fun w1 o1 r hm K => ?_
  replace K : Kn nf c false w1 o1 kn (.cells #[.slice none 0 0, .slice none 0 0] 32) := K
  obtain ⟨M', hsub, hK', hoff, hT⟩ := hA
  have W : NowW nf c w0 w1 o1 kn 0 0 C' := ⟨_, _, _, _, M', ⟨W.old.rx r (fun g e => by cases e; exact W.nk), W.nk, hm, K, OwnO.nil .., OwnO.nil .., hK'.rx r (fun p hp e => hoff p hp (by injection e)), fun p hp => ⟨hoff p hp, by simp [Value.ownBlock], by simp [Value.ownBlock]⟩⟩, hC2 M' hsub hT⟩
  clear r
  simp only [List.getElem_toArray, List.getElem_cons_succ, List.getElem_cons_zero, ev_put_none]
  first
  | refine Seg.ctl rfl (fun _ => stepG_seq) ?_
  | refine Seg.ctl rfl (fun _ => stepG_region_end) ?_
  | (refine Seg.ctl rfl (fun _ => stepG_region) ?_; simp only [List.size_toArray, List.length_cons, List.length_nil, Nat.reduceAdd, Nat.zero_add, List.range, List.range.loop])
  | refine Seg.ctl rfl (fun _ => stepG_block) ?_
  | refine Seg.ctl rfl (fun _ => stepG_inBlock) ?_
  | refine Seg.ctl rfl (fun _ => stepG_ret') ?_
  | refine Seg.ctl rfl (fun _ => stepG_loop) ?_
  | refine Seg.ctl rfl (fun _ => stepG_inLoop) ?_
  | refine Seg.ctl rfl (fun _ => stepG_skip) ?_
  first
  | refine Seg.ctl rfl (fun _ => stepG_seq) ?_
  | refine Seg.ctl rfl (fun _ => stepG_region_end) ?_
  | (refine Seg.ctl rfl (fun _ => stepG_region) ?_; simp only [List.size_toArray, List.length_cons, List.length_nil, Nat.reduceAdd, Nat.zero_add, List.range, List.range.loop])
  | refine Seg.ctl rfl (fun _ => stepG_block) ?_
  | refine Seg.ctl rfl (fun _ => stepG_inBlock) ?_
  | refine Seg.ctl rfl (fun _ => stepG_ret') ?_
  | refine Seg.ctl rfl (fun _ => stepG_loop) ?_
  | refine Seg.ctl rfl (fun _ => stepG_inLoop) ?_
  | refine Seg.ctl rfl (fun _ => stepG_skip) ?_
  first
  | refine Seg.ctl rfl (fun _ => stepG_seq) ?_
  | refine Seg.ctl rfl (fun _ => stepG_region_end) ?_
  | (refine Seg.ctl rfl (fun _ => stepG_region) ?_; simp only [List.size_toArray, List.length_cons, List.length_nil, Nat.reduceAdd, Nat.zero_add, List.range, List.range.loop])
  | refine Seg.ctl rfl (fun _ => stepG_block) ?_
  | refine Seg.ctl rfl (fun _ => stepG_inBlock) ?_
  | refine Seg.ctl rfl (fun _ => stepG_ret') ?_
  | refine Seg.ctl rfl (fun _ => stepG_loop) ?_
  | refine Seg.ctl rfl (fun _ => stepG_inLoop) ?_
  | refine Seg.ctl rfl (fun _ => stepG_skip) ?_
  have hcast : IntKind.i64.wrap ((k : Int) + 1) = ((k + 1 : Nat) : Int) := by rw [IntKind.wrap_i64]; have := D.few; omega
  refine Seg.pu (Pu.bin (v := .int .i64 (k + 1 : Nat)) (m := k) (l := 1) rfl (by simp [ev_put_ne, ev_put_eq, ev_const, sz_put, S.size, S.t0, S.t1, S.t2, S.t6, S.t7]) (by simp [ev_put_ne, ev_put_eq, ev_const, sz_put, S.size, S.t0, S.t1, S.t2, S.t6, S.t7]) (by rw [bin_add, hcast])) rfl rfl (by decide) ?_
  simp only [List.getElem_toArray, List.getElem_cons_succ, List.getElem_cons_zero, ev_put_none]
  refine Seg.pu (Pu.move (v := .int .i64 (k + 1 : Nat)) rfl (by simp [ev_put_ne, ev_put_eq, ev_const, sz_put, S.size, S.t0, S.t1, S.t2, S.t6, S.t7])) rfl rfl (by decide) ?_
  simp only [List.getElem_toArray, List.getElem_cons_succ, List.getElem_cons_zero, ev_put_none]
  first
  | refine Seg.ctl rfl (fun _ => stepG_seq) ?_
  | refine Seg.ctl rfl (fun _ => stepG_region_end) ?_
  | (refine Seg.ctl rfl (fun _ => stepG_region) ?_; simp only [List.size_toArray, List.length_cons, List.length_nil, Nat.reduceAdd, Nat.zero_add, List.range, List.range.loop])
  | refine Seg.ctl rfl (fun _ => stepG_block) ?_
  | refine Seg.ctl rfl (fun _ => stepG_inBlock) ?_
  | refine Seg.ctl rfl (fun _ => stepG_ret') ?_
  | refine Seg.ctl rfl (fun _ => stepG_loop) ?_
  | refine Seg.ctl rfl (fun _ => stepG_inLoop) ?_
  | refine Seg.ctl rfl (fun _ => stepG_skip) ?_
  first
  | refine Seg.ctl rfl (fun _ => stepG_seq) ?_
  | refine Seg.ctl rfl (fun _ => stepG_region_end) ?_
  | (refine Seg.ctl rfl (fun _ => stepG_region) ?_; simp only [List.size_toArray, List.length_cons, List.length_nil, Nat.reduceAdd, Nat.zero_add, List.range, List.range.loop])
  | refine Seg.ctl rfl (fun _ => stepG_block) ?_
  | refine Seg.ctl rfl (fun _ => stepG_inBlock) ?_
  | refine Seg.ctl rfl (fun _ => stepG_ret') ?_
  | refine Seg.ctl rfl (fun _ => stepG_loop) ?_
  | refine Seg.ctl rfl (fun _ => stepG_inLoop) ?_
  | refine Seg.ctl rfl (fun _ => stepG_skip) ?_
  exact Seg.done ⟨_, rfl, ⟨by simp [sz_put, S.size], by simpa [df_put] using S.defers, (by simp [ev_put_ne, ev_put_eq, ev_const, sz_put, S.size, S.t0, S.t1, S.t2, S.t6, S.t7]), (by simp [ev_put_ne, ev_put_eq, ev_const, sz_put, S.size, S.t0, S.t1, S.t2, S.t6, S.t7]), (by simp [ev_put_ne, ev_put_eq, ev_const, sz_put, S.size, S.t0, S.t1, S.t2, S.t6, S.t7]), (by simp [ev_put_ne, ev_put_eq, ev_const, sz_put, S.size, S.t0, S.t1, S.t2, S.t6, S.t7]), (by simp [ev_put_ne, ev_put_eq, ev_const, sz_put, S.size, S.t0, S.t1, S.t2, S.t6, S.t7])⟩, W⟩
set_option maxRecDepth 100000 in
theorem exit_send (D : DataO nf c w0 bm bd s1 s2 N1 N2 Ds Ls) {a : Act} (S : SlotsW a c bm bd kn N N) (W : NowW nf c w0 w o kn n1 n2 C) (hpos : 0 < n1 + n2) (hs : n1 + n2 ≤ 3) :
    Seg Try.prog nf c false (fun g' w' o' => ∃ a' v1 v2 xs1 xs2 M, g' = sendT [2] a' ∧ SlotsW a' c bm bd kn N N ∧ NowV nf c w0 w' o' kn n1 n2 v1 v2 xs1 xs2 M ∧ C xs1 xs2 M ∧ a'.eval (.tmp 50) = .chan (some c) ∧ a'.eval (.tmp 51) = .agg #[v1, v2] ∧ Vmsg (.agg #[v1, v2])) 500 (headW a) w o := by
  simp only [headW, sendT]
  generalize hL : Item.inLoop loopW = IL
  obtain ⟨R, hR⟩ : ∃ R, Item.code loopW = R := ⟨_, rfl⟩
  rw [hR]
  simp only [loopW, bodyW, Try.f34, Option.getD_some] at hR
  subst hR
  first
  | refine Seg.ctl rfl (fun _ => stepG_seq) ?_
  | refine Seg.ctl rfl (fun _ => stepG_region_end) ?_
  | (refine Seg.ctl rfl (fun _ => stepG_region) ?_; simp only [List.size_toArray, List.length_cons, List.length_nil, Nat.reduceAdd, Nat.zero_add, List.range, List.range.loop])
  | refine Seg.ctl rfl (fun _ => stepG_block) ?_
  | refine Seg.ctl rfl (fun _ => stepG_inBlock) ?_
  | refine Seg.ctl rfl (fun _ => stepG_ret') ?_
  | refine Seg.ctl rfl (fun _ => stepG_loop) ?_
  | refine Seg.ctl rfl (fun _ => stepG_inLoop) ?_
  | refine Seg.ctl rfl (fun _ => stepG_skip) ?_
  first
  | refine Seg.ctl rfl (fun _ => stepG_seq) ?_
  | refine Seg.ctl rfl (fun _ => stepG_region_end) ?_
  | (refine Seg.ctl rfl (fun _ => stepG_region) ?_; simp only [List.size_toArray, List.length_cons, List.length_nil, Nat.reduceAdd, Nat.zero_add, List.range, List.range.loop])
  | refine Seg.ctl rfl (fun _ => stepG_block) ?_
  | refine Seg.ctl rfl (fun _ => stepG_inBlock) ?_
  | refine Seg.ctl rfl (fun _ => stepG_ret') ?_
  | refine Seg.ctl rfl (fun _ => stepG_loop) ?_
  | refine Seg.ctl rfl (fun _ => stepG_inLoop) ?_
  | refine Seg.ctl rfl (fun _ => stepG_skip) ?_
  refine Seg.pu (Pu.bin (v := .bool false) (m := N) (l := N) rfl (by simp [ev_put_ne, ev_put_eq, ev_const, sz_put, S.size, S.t0, S.t1, S.t2, S.t6, S.t7]) (by simp [ev_put_ne, ev_put_eq, ev_const, sz_put, S.size, S.t0, S.t1, S.t2, S.t6, S.t7]) (by rw [bin_lss, decide_eq_false]; omega)) rfl rfl (by decide) ?_
  simp only [List.getElem_toArray, List.getElem_cons_succ, List.getElem_cons_zero, ev_put_none]
  first
  | refine Seg.ctl rfl (fun _ => stepG_seq) ?_
  | refine Seg.ctl rfl (fun _ => stepG_region_end) ?_
  | (refine Seg.ctl rfl (fun _ => stepG_region) ?_; simp only [List.size_toArray, List.length_cons, List.length_nil, Nat.reduceAdd, Nat.zero_add, List.range, List.range.loop])
  | refine Seg.ctl rfl (fun _ => stepG_block) ?_
  | refine Seg.ctl rfl (fun _ => stepG_inBlock) ?_
  | refine Seg.ctl rfl (fun _ => stepG_ret') ?_
  | refine Seg.ctl rfl (fun _ => stepG_loop) ?_
  | refine Seg.ctl rfl (fun _ => stepG_inLoop) ?_
  | refine Seg.ctl rfl (fun _ => stepG_skip) ?_
  first
  | refine Seg.ctl rfl (fun _ => stepG_seq) ?_
  | refine Seg.ctl rfl (fun _ => stepG_region_end) ?_
  | (refine Seg.ctl rfl (fun _ => stepG_region) ?_; simp only [List.size_toArray, List.length_cons, List.length_nil, Nat.reduceAdd, Nat.zero_add, List.range, List.range.loop])
  | refine Seg.ctl rfl (fun _ => stepG_block) ?_
  | refine Seg.ctl rfl (fun _ => stepG_inBlock) ?_
  | refine Seg.ctl rfl (fun _ => stepG_ret') ?_
  | refine Seg.ctl rfl (fun _ => stepG_loop) ?_
  | refine Seg.ctl rfl (fun _ => stepG_inLoop) ?_
  | refine Seg.ctl rfl (fun _ => stepG_skip) ?_
  refine Seg.ctl rfl (fun _ => stepG_cond (t := false) (by simp [ev_put_ne, ev_put_eq, ev_const, sz_put, S.size, S.t0, S.t1, S.t2, S.t6, S.t7])) ?_
  simp only [if_false, Bool.false_eq_true]
  subst hL
  refine Seg.ctl rfl (fun _ => stepG_exit (k' := [.code tailW]) rfl) ?_
  obtain ⟨R, hR⟩ : ∃ R, Item.code tailW = R := ⟨_, rfl⟩
  rw [hR]
  simp only [tailW, bodyW, Try.f34, Option.getD_some] at hR
  subst hR
  obtain ⟨v1, v2, xs1, xs2, M, W, hC⟩ := W
  obtain ⟨a1, c1, rfl⟩ := W.h1.sl
  obtain ⟨a2, c2, rfl⟩ := W.h2.sl
  have K := W.K
  first
  | refine Seg.ctl rfl (fun _ => stepG_seq) ?_
  | refine Seg.ctl rfl (fun _ => stepG_region_end) ?_
  | (refine Seg.ctl rfl (fun _ => stepG_region) ?_; simp only [List.size_toArray, List.length_cons, List.length_nil, Nat.reduceAdd, Nat.zero_add, List.range, List.range.loop])
  | refine Seg.ctl rfl (fun _ => stepG_block) ?_
  | refine Seg.ctl rfl (fun _ => stepG_inBlock) ?_
  | refine Seg.ctl rfl (fun _ => stepG_ret') ?_
  | refine Seg.ctl rfl (fun _ => stepG_loop) ?_
  | refine Seg.ctl rfl (fun _ => stepG_inLoop) ?_
  | refine Seg.ctl rfl (fun _ => stepG_skip) ?_
  first
  | refine Seg.ctl rfl (fun _ => stepG_seq) ?_
  | refine Seg.ctl rfl (fun _ => stepG_region_end) ?_
  | (refine Seg.ctl rfl (fun _ => stepG_region) ?_; simp only [List.size_toArray, List.length_cons, List.length_nil, Nat.reduceAdd, Nat.zero_add, List.range, List.range.loop])
  | refine Seg.ctl rfl (fun _ => stepG_block) ?_
  | refine Seg.ctl rfl (fun _ => stepG_inBlock) ?_
  | refine Seg.ctl rfl (fun _ => stepG_ret') ?_
  | refine Seg.ctl rfl (fun _ => stepG_loop) ?_
  | refine Seg.ctl rfl (fun _ => stepG_inLoop) ?_
  | refine Seg.ctl rfl (fun _ => stepG_skip) ?_
  refine Seg.load D.cn (A := ⟨kn, 0, none⟩) (vs := [.slice a1 n1 c1, .slice a2 n2 c2]) rfl rfl (by decide) rfl (by simp [ev_put_ne, ev_put_eq, ev_const, sz_put, S.size, S.t0, S.t1, S.t2, S.t6, S.t7]) (.agg Try.underlying32 rfl Try.type32 rfl (by simp)) (K.cks rfl) ?_
  simp only [List.getElem_toArray, List.getElem_cons_succ, List.getElem_cons_zero, ev_put_none]
  refine Seg.le (Seg.callO (n := 300) (vs := #[.agg #[.slice a1 n1 c1, .slice a2 n2 c2]]) rfl rfl (by decide) rfl Try.func14 (by kernel_rfl) rfl (by simp [ev_put_ne, ev_put_eq, ev_const, sz_put, S.size, S.t0, S.t1, S.t2, S.t6, S.t7]) (deltaMany_o D.cn W.old.size a1 a2 n1 c1 n2 c2 (by omega)) fun v w1 o1 h => ?_) (by omega)
  obtain ⟨rfl, r⟩ := h
  have W := W.rx D.cn r
  have K := W.K
  clear r
  simp only [List.getElem_toArray, List.getElem_cons_succ, List.getElem_cons_zero, ev_put_none]
  refine Seg.pu (Pu.bin (v := .bool true) (m := (n1 : Int) + n2) (l := 0) rfl (by simp [ev_put_ne, ev_put_eq, ev_const, sz_put, S.size, S.t0, S.t1, S.t2, S.t6, S.t7]) (by simp [ev_put_ne, ev_put_eq, ev_const, sz_put, S.size, S.t0, S.t1, S.t2, S.t6, S.t7]) (by rw [bin_gtr, decide_eq_true]; omega)) rfl rfl (by decide) ?_
  simp only [List.getElem_toArray, List.getElem_cons_succ, List.getElem_cons_zero, ev_put_none]
  first
  | refine Seg.ctl rfl (fun _ => stepG_seq) ?_
  | refine Seg.ctl rfl (fun _ => stepG_region_end) ?_
  | (refine Seg.ctl rfl (fun _ => stepG_region) ?_; simp only [List.size_toArray, List.length_cons, List.length_nil, Nat.reduceAdd, Nat.zero_add, List.range, List.range.loop])
  | refine Seg.ctl rfl (fun _ => stepG_block) ?_
  | refine Seg.ctl rfl (fun _ => stepG_inBlock) ?_
  | refine Seg.ctl rfl (fun _ => stepG_ret') ?_
  | refine Seg.ctl rfl (fun _ => stepG_loop) ?_
  | refine Seg.ctl rfl (fun _ => stepG_inLoop) ?_
  | refine Seg.ctl rfl (fun _ => stepG_skip) ?_
  refine Seg.ctl rfl (fun _ => stepG_cond (t := true) (by simp [ev_put_ne, ev_put_eq, ev_const, sz_put, S.size, S.t0, S.t1, S.t2, S.t6, S.t7])) ?_
  simp only [if_true]
  first
  | refine Seg.ctl rfl (fun _ => stepG_seq) ?_
  | refine Seg.ctl rfl (fun _ => stepG_region_end) ?_
  | (refine Seg.ctl rfl (fun _ => stepG_region) ?_; simp only [List.size_toArray, List.length_cons, List.length_nil, Nat.reduceAdd, Nat.zero_add, List.range, List.range.loop])
  | refine Seg.ctl rfl (fun _ => stepG_block) ?_
  | refine Seg.ctl rfl (fun _ => stepG_inBlock) ?_
  | refine Seg.ctl rfl (fun _ => stepG_ret') ?_
  | refine Seg.ctl rfl (fun _ => stepG_loop) ?_
  | refine Seg.ctl rfl (fun _ => stepG_inLoop) ?_
  | refine Seg.ctl rfl (fun _ => stepG_skip) ?_
  refine Seg.load D.cn (A := ⟨bm, 0, none⟩) (vs := [.chan (some c)]) rfl rfl (by decide) rfl (by simp [ev_put_ne, ev_put_eq, ev_const, sz_put, S.size, S.t0, S.t1, S.t2, S.t6, S.t7]) (.one Try.underlying60 rfl) (ck1 (D.msg.ck W.old)) ?_
  simp only [List.getElem_toArray, List.getElem_cons_succ, List.getElem_cons_zero, ev_put_none]
  refine Seg.load D.cn (A := ⟨kn, 0, none⟩) (vs := [.slice a1 n1 c1, .slice a2 n2 c2]) rfl rfl (by decide) rfl (by simp [ev_put_ne, ev_put_eq, ev_const, sz_put, S.size, S.t0, S.t1, S.t2, S.t6, S.t7]) (.agg Try.underlying32 rfl Try.type32 rfl (by simp)) (K.cks rfl) ?_
  simp only [List.getElem_toArray, List.getElem_cons_succ, List.getElem_cons_zero, ev_put_none]
  exact Seg.done ⟨_, _, _, _, _, _, rfl, ⟨by simp [sz_put, S.size], by simpa [df_put] using S.defers, (by simp [ev_put_ne, ev_put_eq, ev_const, sz_put, S.size, S.t0, S.t1, S.t2, S.t6, S.t7]), (by simp [ev_put_ne, ev_put_eq, ev_const, sz_put, S.size, S.t0, S.t1, S.t2, S.t6, S.t7]), (by simp [ev_put_ne, ev_put_eq, ev_const, sz_put, S.size, S.t0, S.t1, S.t2, S.t6, S.t7]), (by simp [ev_put_ne, ev_put_eq, ev_const, sz_put, S.size, S.t0, S.t1, S.t2, S.t6, S.t7]), (by simp [ev_put_ne, ev_put_eq, ev_const, sz_put, S.size, S.t0, S.t1, S.t2, S.t6, S.t7])⟩, W, hC, (by simp [ev_put_ne, ev_put_eq, ev_const, sz_put, S.size, S.t0, S.t1, S.t2, S.t6, S.t7]), (by simp [ev_put_ne, ev_put_eq, ev_const, sz_put, S.size, S.t0, S.t1, S.t2, S.t6, S.t7]), _, _, _, _, _, _, rfl⟩
set_option maxRecDepth 100000 in
theorem exit_none (D : DataO nf c w0 bm bd s1 s2 N1 N2 Ds Ls) {a : Act} (S : SlotsW a c bm bd kn N N) (W : NowW nf c w0 w o kn n1 n2 C) (hpos : n1 + n2 = 0) :
    Seg Try.prog nf c false (fun g' w' o' => ∃ a', g' = retW a' ∧ SlotsW a' c bm bd kn N N ∧ NowW nf c w0 w' o' kn n1 n2 C) 500 (headW a) w o := by
  simp only [headW, retW]
  generalize hL : Item.inLoop loopW = IL
  obtain ⟨R, hR⟩ : ∃ R, Item.code loopW = R := ⟨_, rfl⟩
  rw [hR]
  simp only [loopW, bodyW, Try.f34, Option.getD_some] at hR
  subst hR
  first
  | refine Seg.ctl rfl (fun _ => stepG_seq) ?_
  | refine Seg.ctl rfl (fun _ => stepG_region_end) ?_
  | (refine Seg.ctl rfl (fun _ => stepG_region) ?_; simp only [List.size_toArray, List.length_cons, List.length_nil, Nat.reduceAdd, Nat.zero_add, List.range, List.range.loop])
  | refine Seg.ctl rfl (fun _ => stepG_block) ?_
  | refine Seg.ctl rfl (fun _ => stepG_inBlock) ?_
  | refine Seg.ctl rfl (fun _ => stepG_ret') ?_
  | refine Seg.ctl rfl (fun _ => stepG_loop) ?_
  | refine Seg.ctl rfl (fun _ => stepG_inLoop) ?_
  | refine Seg.ctl rfl (fun _ => stepG_skip) ?_
  first
  | refine Seg.ctl rfl (fun _ => stepG_seq) ?_
  | refine Seg.ctl rfl (fun _ => stepG_region_end) ?_
  | (refine Seg.ctl rfl (fun _ => stepG_region) ?_; simp only [List.size_toArray, List.length_cons, List.length_nil, Nat.reduceAdd, Nat.zero_add, List.range, List.range.loop])
  | refine Seg.ctl rfl (fun _ => stepG_block) ?_
  | refine Seg.ctl rfl (fun _ => stepG_inBlock) ?_
  | refine Seg.ctl rfl (fun _ => stepG_ret') ?_
  | refine Seg.ctl rfl (fun _ => stepG_loop) ?_
  | refine Seg.ctl rfl (fun _ => stepG_inLoop) ?_
  | refine Seg.ctl rfl (fun _ => stepG_skip) ?_
  refine Seg.pu (Pu.bin (v := .bool false) (m := N) (l := N) rfl (by simp [ev_put_ne, ev_put_eq, ev_const, sz_put, S.size, S.t0, S.t1, S.t2, S.t6, S.t7]) (by simp [ev_put_ne, ev_put_eq, ev_const, sz_put, S.size, S.t0, S.t1, S.t2, S.t6, S.t7]) (by rw [bin_lss, decide_eq_false]; omega)) rfl rfl (by decide) ?_
  simp only [List.getElem_toArray, List.getElem_cons_succ, List.getElem_cons_zero, ev_put_none]
  first
  | refine Seg.ctl rfl (fun _ => stepG_seq) ?_
  | refine Seg.ctl rfl (fun _ => stepG_region_end) ?_
  | (refine Seg.ctl rfl (fun _ => stepG_region) ?_; simp only [List.size_toArray, List.length_cons, List.length_nil, Nat.reduceAdd, Nat.zero_add, List.range, List.range.loop])
  | refine Seg.ctl rfl (fun _ => stepG_block) ?_
  | refine Seg.ctl rfl (fun _ => stepG_inBlock) ?_
  | refine Seg.ctl rfl (fun _ => stepG_ret') ?_
  | refine Seg.ctl rfl (fun _ => stepG_loop) ?_
  | refine Seg.ctl rfl (fun _ => stepG_inLoop) ?_
  | refine Seg.ctl rfl (fun _ => stepG_skip) ?_
  first
  | refine Seg.ctl rfl (fun _ => stepG_seq) ?_
  | refine Seg.ctl rfl (fun _ => stepG_region_end) ?_
  | (refine Seg.ctl rfl (fun _ => stepG_region) ?_; simp only [List.size_toArray, List.length_cons, List.length_nil, Nat.reduceAdd, Nat.zero_add, List.range, List.range.loop])
  | refine Seg.ctl rfl (fun _ => stepG_block) ?_
  | refine Seg.ctl rfl (fun _ => stepG_inBlock) ?_
  | refine Seg.ctl rfl (fun _ => stepG_ret') ?_
  | refine Seg.ctl rfl (fun _ => stepG_loop) ?_
  | refine Seg.ctl rfl (fun _ => stepG_inLoop) ?_
  | refine Seg.ctl rfl (fun _ => stepG_skip) ?_
  refine Seg.ctl rfl (fun _ => stepG_cond (t := false) (by simp [ev_put_ne, ev_put_eq, ev_const, sz_put, S.size, S.t0, S.t1, S.t2, S.t6, S.t7])) ?_
  simp only [if_false, Bool.false_eq_true]
  subst hL
  refine Seg.ctl rfl (fun _ => stepG_exit (k' := [.code tailW]) rfl) ?_
  obtain ⟨R, hR⟩ : ∃ R, Item.code tailW = R := ⟨_, rfl⟩
  rw [hR]
  simp only [tailW, bodyW, Try.f34, Option.getD_some] at hR
  subst hR
  obtain ⟨v1, v2, xs1, xs2, M, W, hC⟩ := W
  obtain ⟨a1, c1, rfl⟩ := W.h1.sl
  obtain ⟨a2, c2, rfl⟩ := W.h2.sl
  have K := W.K
  first
  | refine Seg.ctl rfl (fun _ => stepG_seq) ?_
  | refine Seg.ctl rfl (fun _ => stepG_region_end) ?_
  | (refine Seg.ctl rfl (fun _ => stepG_region) ?_; simp only [List.size_toArray, List.length_cons, List.length_nil, Nat.reduceAdd, Nat.zero_add, List.range, List.range.loop])
  | refine Seg.ctl rfl (fun _ => stepG_block) ?_
  | refine Seg.ctl rfl (fun _ => stepG_inBlock) ?_
  | refine Seg.ctl rfl (fun _ => stepG_ret') ?_
  | refine Seg.ctl rfl (fun _ => stepG_loop) ?_
  | refine Seg.ctl rfl (fun _ => stepG_inLoop) ?_
  | refine Seg.ctl rfl (fun _ => stepG_skip) ?_
  first
  | refine Seg.ctl rfl (fun _ => stepG_seq) ?_
  | refine Seg.ctl rfl (fun _ => stepG_region_end) ?_
  | (refine Seg.ctl rfl (fun _ => stepG_region) ?_; simp only [List.size_toArray, List.length_cons, List.length_nil, Nat.reduceAdd, Nat.zero_add, List.range, List.range.loop])
  | refine Seg.ctl rfl (fun _ => stepG_block) ?_
  | refine Seg.ctl rfl (fun _ => stepG_inBlock) ?_
  | refine Seg.ctl rfl (fun _ => stepG_ret') ?_
  | refine Seg.ctl rfl (fun _ => stepG_loop) ?_
  | refine Seg.ctl rfl (fun _ => stepG_inLoop) ?_
  | refine Seg.ctl rfl (fun _ => stepG_skip) ?_
  refine Seg.load D.cn (A := ⟨kn, 0, none⟩) (vs := [.slice a1 n1 c1, .slice a2 n2 c2]) rfl rfl (by decide) rfl (by simp [ev_put_ne, ev_put_eq, ev_const, sz_put, S.size, S.t0, S.t1, S.t2, S.t6, S.t7]) (.agg Try.underlying32 rfl Try.type32 rfl (by simp)) (K.cks rfl) ?_
  simp only [List.getElem_toArray, List.getElem_cons_succ, List.getElem_cons_zero, ev_put_none]
  refine Seg.le (Seg.callO (n := 300) (vs := #[.agg #[.slice a1 n1 c1, .slice a2 n2 c2]]) rfl rfl (by decide) rfl Try.func14 (by kernel_rfl) rfl (by simp [ev_put_ne, ev_put_eq, ev_const, sz_put, S.size, S.t0, S.t1, S.t2, S.t6, S.t7]) (deltaMany_o D.cn W.old.size a1 a2 n1 c1 n2 c2 (by omega)) fun v w1 o1 h => ?_) (by omega)
  obtain ⟨rfl, r⟩ := h
  have W := W.rx D.cn r
  have K := W.K
  clear r
  simp only [List.getElem_toArray, List.getElem_cons_succ, List.getElem_cons_zero, ev_put_none]
  refine Seg.pu (Pu.bin (v := .bool false) (m := (n1 : Int) + n2) (l := 0) rfl (by simp [ev_put_ne, ev_put_eq, ev_const, sz_put, S.size, S.t0, S.t1, S.t2, S.t6, S.t7]) (by simp [ev_put_ne, ev_put_eq, ev_const, sz_put, S.size, S.t0, S.t1, S.t2, S.t6, S.t7]) (by rw [bin_gtr, decide_eq_false]; omega)) rfl rfl (by decide) ?_
  simp only [List.getElem_toArray, List.getElem_cons_succ, List.getElem_cons_zero, ev_put_none]
  first
  | refine Seg.ctl rfl (fun _ => stepG_seq) ?_
  | refine Seg.ctl rfl (fun _ => stepG_region_end) ?_
  | (refine Seg.ctl rfl (fun _ => stepG_region) ?_; simp only [List.size_toArray, List.length_cons, List.length_nil, Nat.reduceAdd, Nat.zero_add, List.range, List.range.loop])
  | refine Seg.ctl rfl (fun _ => stepG_block) ?_
  | refine Seg.ctl rfl (fun _ => stepG_inBlock) ?_
  | refine Seg.ctl rfl (fun _ => stepG_ret') ?_
  | refine Seg.ctl rfl (fun _ => stepG_loop) ?_
  | refine Seg.ctl rfl (fun _ => stepG_inLoop) ?_
  | refine Seg.ctl rfl (fun _ => stepG_skip) ?_
  refine Seg.ctl rfl (fun _ => stepG_cond (t := false) (by simp [ev_put_ne, ev_put_eq, ev_const, sz_put, S.size, S.t0, S.t1, S.t2, S.t6, S.t7])) ?_
  simp only [if_false, Bool.false_eq_true]
  first
  | refine Seg.ctl rfl (fun _ => stepG_seq) ?_
  | refine Seg.ctl rfl (fun _ => stepG_region_end) ?_
  | (refine Seg.ctl rfl (fun _ => stepG_region) ?_; simp only [List.size_toArray, List.length_cons, List.length_nil, Nat.reduceAdd, Nat.zero_add, List.range, List.range.loop])
  | refine Seg.ctl rfl (fun _ => stepG_block) ?_
  | refine Seg.ctl rfl (fun _ => stepG_inBlock) ?_
  | refine Seg.ctl rfl (fun _ => stepG_ret') ?_
  | refine Seg.ctl rfl (fun _ => stepG_loop) ?_
  | refine Seg.ctl rfl (fun _ => stepG_inLoop) ?_
  | refine Seg.ctl rfl (fun _ => stepG_skip) ?_
  refine Seg.ctl rfl (fun _ => stepG_end) ?_
  exact Seg.done ⟨_, rfl, ⟨by simp [sz_put, S.size], by simpa [df_put] using S.defers, (by simp [ev_put_ne, ev_put_eq, ev_const, sz_put, S.size, S.t0, S.t1, S.t2, S.t6, S.t7]), (by simp [ev_put_ne, ev_put_eq, ev_const, sz_put, S.size, S.t0, S.t1, S.t2, S.t6, S.t7]), (by simp [ev_put_ne, ev_put_eq, ev_const, sz_put, S.size, S.t0, S.t1, S.t2, S.t6, S.t7]), (by simp [ev_put_ne, ev_put_eq, ev_const, sz_put, S.size, S.t0, S.t1, S.t2, S.t6, S.t7]), (by simp [ev_put_ne, ev_put_eq, ev_const, sz_put, S.size, S.t0, S.t1, S.t2, S.t6, S.t7])⟩, _, _, _, _, _, W, hC⟩
theorem after_last {a : Act} (S : SlotsW a c bm bd kn N N) {Fact : World → Who → Prop} (hF : Fact w o) : Seg Try.prog nf c false (fun g' w' o' => ∃ a', g' = retW a' ∧ SlotsW a' c bm bd kn N N ∧ Fact w' o') 2 (sendT [] a) w o := by
  refine Seg.ctl rfl (fun _ => stepG_region_end) ?_
  refine Seg.ctl rfl (fun _ => stepG_end) ?_
  exact Seg.done ⟨_, rfl, S, hF⟩
end
end Go.Proofs.Ytjkfnjjkjhggfaa
set_option linter.unusedSimpArgs false
set_option linter.unusedVariables false
namespace Go.Proofs.Ytjkfnjjkjhggfaa
open Go.Conc Go.RowKit

section
variable {Ds : List Rg} {Ls : List Rt} {nf : Nat} {vs : List Value}
/-- What was sent: letter by letter. -/
def Dones (Ds : List Rg) (Ls : List Rt) (w : World) (vs : List Value) : Prop := ∀ (i : Nat) (v : Value), vs[i]? = some v → ∃ d : LtD, v = .agg #[d.u, d.v] ∧ shLt.rd w d (cut Ds Ls (i * 3) (i * 3 + 3))
/-- What is told, k items done. -/
def Cnt (Ds : List Rg) (Ls : List Rt) (vs : List Value) (k : Nat) : Ctn := fun xs1 xs2 M => ∃ rds : List RtD, xs1 = (cut Ds Ls (vs.length * 3) k).1.flatMap encRg ∧ xs2 = rds.flatMap encRt ∧ ∀ w, HasM M w → RdsL w rds (cut Ds Ls (vs.length * 3) k).2 ∧ Dones Ds Ls w vs
/-- What is known when all is sent. -/
def FactC (nf c : Nat) (Ds : List Rg) (Ls : List Rt) : List Value → World → Who → Prop := fun vs w o => vs.length = (Ds.length + Ls.length + 2) / 3 ∧ ∃ M, KnM nf c w o M ∧ ∀ w, HasM M w → Dones Ds Ls w vs
theorem FactC.ro {c : Nat} {w w1 : World} {o o1 : Who} (h : FactC nf c Ds Ls vs w o) (r : RO nf c false w o w1 o1) : FactC nf c Ds Ls vs w1 o1 := by
  obtain ⟨h0, M, h1, h2⟩ := h
  exact ⟨h0, M, h1.rx (r.rx none) (by simp), h2⟩
theorem FactC.dones {c : Nat} {w : World} {o : Who} (h : FactC nf c Ds Ls vs w o) : Dones Ds Ls w vs := let ⟨_, _, h1, h2⟩ := h; h2 _ h1.has
theorem cnt_start {M : List (Nat × Obj)} : Cnt Ds Ls [] 0 [] [] M := by
  refine ⟨[], ?_, rfl, fun w _ => ⟨?_, fun i v h => by simp at h⟩⟩
  · rw [cut_nil Ds Ls (by simp)]; rfl
  · rw [cut_nil Ds Ls (by simp)]; exact ⟨rfl, fun k t h => by simp at h⟩
theorem cnt_drop {k : Nat} {xs1 xs2 : List Value} {M : List (Nat × Obj)} {f b : Int} (hv : vs.length * 3 ≤ k) (hk : Ds[k]? = some (f, b)) (h : Cnt Ds Ls vs k xs1 xs2 M) : Cnt Ds Ls vs (k + 1) (xs1 ++ [.int .i64 f, .int .i64 b]) xs2 M := by
  obtain ⟨rds, rfl, rfl, h3⟩ := h
  obtain ⟨e1, e2⟩ := cut_drop Ds Ls hv hk
  refine ⟨rds, ?_, rfl, fun w hw => ⟨?_, (h3 w hw).2⟩⟩
  · rw [e1, List.flatMap_append]; rfl
  · have := (h3 w hw).1
    rw [e2] at this
    rw [e1]; exact this
theorem ints_of_row {w : World} {p : Value} {A : List Int} (h : w.ownsRow nf 3 1 p (A.map (Value.int .i64)).length (A.map (Value.int .i64))) : Ints w p A := by
  have e : A.flatMap encI = A.map (Value.int .i64) := by
    clear h
    induction A with
    | nil => rfl
    | cons x A ih => rw [List.flatMap_cons, ih]; rfl
  rw [List.length_map, ← e] at h
  exact Own.ints (E := 3) (B := nf) h
theorem cnt_tell {k : Nat} {xs1 xs2 : List Value} {M M' : List (Nat × Obj)} {f b l : Int} {p q : Value} {A B : List Int} (hv : vs.length * 3 ≤ k) (hD : Ds.length ≤ k) (hk : Ls[k - Ds.length]? = some (f, b, l, A, B)) (h : Cnt Ds Ls vs k xs1 xs2 M) (hM : ∀ x ∈ M, x ∈ M')
    (hr : ∀ w', HasM M' w' → w'.ownsRow nf 3 1 p (A.map (Value.int .i64)).length (A.map (Value.int .i64)) ∧ w'.ownsRow nf 3 1 q (B.map (Value.int .i64)).length (B.map (Value.int .i64))) : Cnt Ds Ls vs (k + 1) xs1 (xs2 ++ [.int .i64 f, .int .i64 b, p, .int .i64 l, q]) M' := by
  obtain ⟨rds, rfl, rfl, h3⟩ := h
  have e1 := cut_tell Ds Ls hv (show k = Ds.length + (k - Ds.length) by omega) hk
  refine ⟨rds ++ [⟨f, b, l, p, q⟩], ?_, ?_, fun w hw => ⟨?_, (h3 w (hw.sub hM)).2⟩⟩
  · rw [e1]
  · rw [List.flatMap_append]; rfl
  · rw [e1]
    refine (h3 w (hw.sub hM)).1.app ⟨rfl, fun j t ht => ?_⟩
    match j, ht with
    | 0, ht => cases ht; exact ⟨_, rfl, ⟨rfl, rfl, rfl⟩, ints_of_row (hr w hw).1, ints_of_row (hr w hw).2⟩
theorem rows_of_own {α : Type} {E : TypeId} {w : World} {v : Value} {sz n : Nat} {enc : α → List Value} {X : List α} (hs : ∀ x, (enc x).length = sz) (hz : 0 < sz) (h : w.ownsRow nf E sz v n (X.flatMap enc)) : Rows w v sz enc X := by
  have hl : (X.flatMap enc).length = X.length * sz := by
    clear h
    induction X with
    | nil => simp
    | cons x X ih => rw [List.flatMap_cons, List.length_append, ih, hs, List.length_cons, Nat.succ_mul, Nat.add_comm]
  have h0 := h.1
  have hn : n = X.length := by
    rw [hl] at h0
    exact (Nat.eq_of_mul_eq_mul_right hz h0).symm
  subst hn
  exact Own.rows (E := E) (B := nf) h hs
/-- A letter more. -/
theorem dones_snoc {k n1 n2 : Nat} {v1 v2 : Value} {xs1 xs2 : List Value} {M M' : List (Nat × Obj)} (h : Cnt Ds Ls vs k xs1 xs2 M) (e : cut Ds Ls (vs.length * 3) k = cut Ds Ls (vs.length * 3) (vs.length * 3 + 3)) (hM : ∀ x ∈ M, x ∈ M')
    (hr : ∀ w', HasM M' w' → w'.ownsRow nf 62 2 v1 n1 xs1 ∧ w'.ownsRow nf 64 5 v2 n2 xs2) : ∀ w', HasM M' w' → Dones Ds Ls w' (vs ++ [.agg #[v1, v2]]) := by
  obtain ⟨rds, rfl, rfl, h3⟩ := h
  intro w' hw i v hi
  obtain ⟨h4, h5⟩ := h3 w' (hw.sub hM)
  by_cases hl : i < vs.length
  · rw [List.getElem?_append_left hl] at hi
    exact h5 i v hi
  · rw [List.getElem?_append_right (by omega)] at hi
    have hi0 : i - vs.length = 0 := by
      have := (List.getElem?_eq_some_iff.1 hi).1
      simp at this; omega
    obtain rfl : i = vs.length := by omega
    rw [hi0] at hi
    simp only [List.getElem?_cons_zero, Option.some.injEq] at hi
    subst hi
    rw [← e]
    exact ⟨⟨v1, v2, rds⟩, rfl, rows_of_own (fun _ => rfl) (by decide) (hr w' hw).1, rows_of_own (fun _ => rfl) (by decide) (hr w' hw).2, h4⟩
theorem cnt_send {k n1 n2 : Nat} {v1 v2 : Value} {xs1 xs2 : List Value} {M M' : List (Nat × Obj)} (h : Cnt Ds Ls vs k xs1 xs2 M) (hk : k = vs.length * 3 + 3) (hM : ∀ x ∈ M, x ∈ M')
    (hr : ∀ w', HasM M' w' → w'.ownsRow nf 62 2 v1 n1 xs1 ∧ w'.ownsRow nf 64 5 v2 n2 xs2) : Cnt Ds Ls (vs ++ [.agg #[v1, v2]]) k [] [] M' := by
  have hd := dones_snoc h (by rw [hk]) hM hr
  have e : cut Ds Ls ((vs ++ [Value.agg #[v1, v2]]).length * 3) k = ([], []) := cut_nil Ds Ls (by simp; omega)
  refine ⟨[], by rw [e]; rfl, rfl, fun w hw => ⟨?_, hd w hw⟩⟩
  rw [e]
  exact ⟨rfl, fun k t h => by simp at h⟩
end
section
variable {nf c bm bd kn N k n1 n2 N1 N2 : Nat} {w0 w : World} {o : Who} {s1 s2 : Value} {Fact : List Value → World → Who → Prop} {done : List Value} {Ds : List Rg} {Ls : List Rt}
theorem quitsW (a : Act) (hd : a.defers = []) : QuitsIn Try.prog 2 (retW a) := by
  refine .inr ⟨rfl, G botW [], fun w => ?_, ?_⟩
  · simp [G, stepG, unwind, doReturn, results, Frame.at, baseD, botW, Try.func34, Try.f34, seen, GStep.after, goexitEntry, hd]
  refine .inr ⟨rfl, { G botW [] with status := .finished }, fun w => ?_, rfl⟩
  simp [G, stepG, unwind, botW, goexitEntry, Frame.catches]
  rfl
theorem close_step {a : Act} {ty : TypeId} {cs : Array Bool} (hd : a.defers = [{ target := .builtin .close #[60] ty cs, args := #[.chan (some c)] }]) {buf : Array Value} {s r : Nat} {tm : Bool} (hc : w.heap[c]? = some (.chan 3 buf false s r tm)) :
    stepG Try.prog false (retW a) w = .go (retW ⟨a.tmps, []⟩) (w.setChan c 3 buf true s r tm) #[⟨.obj c, false, true⟩, ⟨.obj c, true, true⟩] := by
  have h1 := run_close_open (P := Try.prog) #[60] ty hc
  have h2 := events_close_open (P := Try.prog) (es := #[]) #[60] ty hc
  have hl : seen Try.prog 34 #[⟨.obj c, false, true⟩, ⟨.obj c, true, true⟩] = #[⟨.obj c, false, true⟩, ⟨.obj c, true, true⟩] := seen_eq (by simp [Try.func34, Try.f34]) (by simp)
  simp [G, stepG, unwind, callDeferred, Frame.at, baseD, hd, invoke, builtin, h1, h2, GStep.after, hl, World.setChan]
theorem atClose (hcn : c < nf) {a : Act} (S : SlotsW a c bm bd kn N N) (hF : Fact done w o) : AtCloseO Try.prog nf c 3 Fact done (retW a) w o := by
  obtain ⟨ty, cs, hd⟩ := S.defers
  refine ⟨rfl, rfl, hF, retW ⟨a.tmps, []⟩, #[⟨.obj c, false, true⟩], 2, fun buf s r tm hc => ?_, fun e he => ?_, quitsW _ rfl⟩
  · rw [close_step hd hc]
    rfl
  · simp at he
    subst he
    exact .inr rfl
theorem atSend9 (D : DataO nf c w0 bm bd s1 s2 N1 N2 Ds Ls) {a : Act} {v : Value} {Next : Value → Goroutine → World → Who → Prop} (hx : a.eval (.tmp 43) = .chan (some c)) (hy : a.eval (.tmp 44) = v) (hv : Vmsg v) (next : ∀ w1 o1, RO nf c false w o w1 o1 → Next v (sendW [] a) w1 o1) : AtSendO Try.prog nf c Vmsg Next (sendW [2] a) w o :=
  atSendO_of rfl rfl (by decide) rfl hx hy hv next
theorem atSend13 (D : DataO nf c w0 bm bd s1 s2 N1 N2 Ds Ls) {a : Act} {v : Value} {Next : Value → Goroutine → World → Who → Prop} (hx : a.eval (.tmp 50) = .chan (some c)) (hy : a.eval (.tmp 51) = v) (hv : Vmsg v) (next : ∀ w1 o1, RO nf c false w o w1 o1 → Next v (sendT [] a) w1 o1) : AtSendO Try.prog nf c Vmsg Next (sendT [2] a) w o :=
  atSendO_of rfl rfl (by decide) rfl hx hy hv next
theorem FactC.end (hcn : c < nf) {v1 v2 : Value} {xs1 xs2 : List Value} {M : List (Nat × Obj)} (W : NowV nf c w0 w o kn n1 n2 v1 v2 xs1 xs2 M) (h : Cnt Ds Ls done k xs1 xs2 M) (hk : k = Ds.length + Ls.length) (h1 : done.length * 3 < k) (h3 : k ≤ done.length * 3 + 3) : FactC nf c Ds Ls (done ++ [.agg #[v1, v2]]) w o := by
  obtain ⟨M', hs, hK, -, hT⟩ := W.all hcn
  refine ⟨by simp; omega, M', hK, dones_snoc h ?_ hs hT⟩
  unfold cut
  rw [seg_end Ds (b := k) (c := done.length * 3 + 3) (by omega) (by omega), seg_end Ls (b := k - Ds.length) (c := done.length * 3 + 3 - Ds.length) (by omega) (by omega)]
theorem sends_head (D : DataO nf c w0 bm bd s1 s2 N1 N2 Ds Ls) (hN : N = N1 + N2) : ∀ r, ∃ n, ∀ (kn k n1 n2 : Nat) (a : Act) (w : World) (o : Who) (done : List Value), k + r = N → n1 + n2 ≤ 2 → k = done.length * 3 + (n1 + n2) → SlotsW a c bm bd kn N k → NowW nf c w0 w o kn n1 n2 (Cnt Ds Ls done k) →
    GoesO Try.prog nf c false (StopS Try.prog nf c 3 Vmsg (FactC nf c Ds Ls) ((r + (n1 + n2) + 2) / 3) done) n (headW a) w o := by
  have hl1 := D.l1
  have hl2 := D.l2
  intro r
  induction r with
  | zero =>
    refine ⟨0 + 500, fun kn k n1 n2 a w o done hk hm hkd S W => ?_⟩
    obtain rfl : k = N := by omega
    by_cases h0 : n1 + n2 = 0
    · rw [show (0 + (n1 + n2) + 2) / 3 = 0 by omega]
      refine exit_none D S W h0 _ 0 ?_
      rintro _ w1 o1 ⟨a1, rfl, S1, W1⟩ w2 o2 r2
      refine atClose D.cn S1 ?_
      obtain ⟨v1, v2, xs1, xs2, M, W2, hC⟩ := nowW_rx D.cn W1 (r2.rx none)
      obtain ⟨rds, -, -, h3⟩ := hC
      exact ⟨by omega, M, W2.kM, fun w hw => (h3 w hw).2⟩
    · rw [show (0 + (n1 + n2) + 2) / 3 = 0 + 1 by omega]
      refine exit_send D S W (by omega) (by omega) _ 0 ?_
      rintro _ w1 o1 ⟨a1, v1, v2, xs1, xs2, M, rfl, S1, W1, hC, hx, hy, hv⟩ w2 o2 r2
      refine atSend13 D hx hy hv fun w3 o3 r3 => ?_
      have hF := FactC.end D.cn ((W1.rx D.cn (r2.rx none)).rx D.cn (r3.rx none)) hC (by omega) (by omega) (by omega)
      refine ⟨0 + 2, after_last S1 hF _ 0 ?_⟩
      rintro _ w4 o4 ⟨a4, rfl, S4, hF4⟩ w5 o5 r5
      exact atClose D.cn S4 (hF4.ro r5)
  | succ r ih =>
    obtain ⟨nr, ih⟩ := ih
    refine ⟨nr + 400 + 400 + 16000, fun kn k n1 n2 a w o done hk hm hkd S W => ?_⟩
    have mid : ∀ {n1 n2 a w o}, n1 + n2 ≤ 3 → 0 < n1 + n2 → k + 1 = done.length * 3 + (n1 + n2) → SlotsW a c bm bd kn N k → NowW nf c w0 w o kn n1 n2 (Cnt Ds Ls done (k + 1)) → GoesO Try.prog nf c false (StopS Try.prog nf c 3 Vmsg (FactC nf c Ds Ls) ((r + (n1 + n2) + 2) / 3) done) (nr + 400 + 400) (midW a) w o := by
      intro n1 n2 a w o hm hp hkd S W
      by_cases h3 : n1 + n2 = 3
      · rw [show (r + (n1 + n2) + 2) / 3 = (r + (0 + 0) + 2) / 3 + 1 by omega]
        refine rest_yes D S W hN (by omega) h3 _ _ ?_
        rintro _ w1 o1 ⟨a1, v1, v2, xs1, xs2, M, rfl, S1, W1, hC, hx, hy, hv⟩
        refine GoesO.le (n := 0) (fun w2 o2 r2 => ?_) (Nat.zero_le _)
        refine atSend9 D hx hy hv fun w3 o3 r3 => ?_
        refine (sendsO_iff ..).2 ⟨nr + 400, ?_⟩
        refine after_send D S1 ((W1.rx D.cn (r2.rx none)).rx D.cn (r3.rx none)) hN (by omega) (C' := Cnt Ds Ls (done ++ [.agg #[v1, v2]]) (k + 1)) (fun M' hs hT => cnt_send hC (by omega) hs hT) _ nr ?_
        rintro _ w4 o4 ⟨a4, rfl, S4, W4⟩
        exact ih kn (k + 1) 0 0 a4 w4 o4 _ (by omega) (by omega) (by simp; omega) S4 W4
      · refine GoesO.le (n := nr + 400) ?_ (by omega)
        refine rest_no D S W hN (by omega) h3 (by omega) _ nr ?_
        rintro _ w1 o1 ⟨a1, rfl, S1, W1⟩
        exact ih kn (k + 1) n1 n2 a1 w1 o1 _ (by omega) (by omega) (by omega) S1 W1
    by_cases hk1 : k < N1
    · refine GoesO.le (n := nr + 400 + 400 + 2000) ?_ (by omega)
      refine round_drop D S W hN hk1 (by omega) (C' := Cnt Ds Ls done (k + 1)) (fun xs1 xs2 M f b hD hC => cnt_drop (by omega) hD hC) _ _ ?_
      rintro _ w1 o1 ⟨a1, rfl, S1, W1⟩
      have := mid (by omega) (by omega) (by omega) S1 W1
      rwa [show r + (n1 + 1 + n2) + 2 = r + 1 + (n1 + n2) + 2 by omega] at this
    · refine round_tell D S W hN (by omega) (by omega) (by omega) (C' := Cnt Ds Ls done (k + 1)) (fun xs1 xs2 M M' f b l p q A B hL hC hs hr => cnt_tell (by omega) (by omega) (by rw [hl1]; exact hL) hC hs hr) _ _ ?_
      rintro _ w1 o1 ⟨a1, rfl, S1, W1⟩
      have := mid (by omega) (by omega) (by omega) S1 W1
      rwa [show r + (n1 + (n2 + 1)) + 2 = r + 1 + (n1 + n2) + 2 by omega] at this
end
end Go.Proofs.Ytjkfnjjkjhggfaa
set_option linter.unusedSimpArgs false
set_option linter.unusedVariables false
namespace Go.Proofs.Ytjkfnjjkjhggfaa
open Go.Conc Go.RowKit

section
variable {nf c bm bd N1 N2 : Nat} {w0 w : World} {o : Who} {s1 s2 : Value} {Ds : List Rg} {Ls : List Rt}
theorem entryW (D : DataO nf c w0 bm bd s1 s2 N1 N2 Ds Ls) (hO : OldO nf c w0 w) {a : Act} (hs : a.tmps.size = 52) (hd : a.defers = []) (h0 : a.eval (.tmp 0) = .pointer (some ⟨bm, 0, none⟩)) (h1 : a.eval (.tmp 1) = .pointer (some ⟨bd, 0, none⟩)) :
    Seg Try.prog nf c false (fun g' w' o' => ∃ a' kn, g' = headW a' ∧ SlotsW a' c bm bd kn (N1 + N2) 0 ∧ NowW nf c w0 w' o' kn 0 0 (Cnt Ds Ls [] 0)) 500 (G ((baseD 34).at a [.code bodyW]) [botW]) w o := by
  simp only [headW]
  generalize hL : loopW = L
  generalize hT : tailW = T
  have e : bodyW = bodyW := rfl
  conv at e => rhs; simp only [bodyW, Try.f34, Option.getD_some]
  rw [e]
  obtain ⟨a1, c1, rfl⟩ := D.sh1
  obtain ⟨a2, c2, rfl⟩ := D.sh2
  first
  | refine Seg.ctl rfl (fun _ => stepG_seq) ?_
  | refine Seg.ctl rfl (fun _ => stepG_region_end) ?_
  | (refine Seg.ctl rfl (fun _ => stepG_region) ?_; simp only [List.size_toArray, List.length_cons, List.length_nil, Nat.reduceAdd, Nat.zero_add, List.range, List.range.loop])
  | refine Seg.ctl rfl (fun _ => stepG_block) ?_
  | refine Seg.ctl rfl (fun _ => stepG_inBlock) ?_
  | refine Seg.ctl rfl (fun _ => stepG_ret') ?_
  | refine Seg.ctl rfl (fun _ => stepG_loop) ?_
  | refine Seg.ctl rfl (fun _ => stepG_inLoop) ?_
  | refine Seg.ctl rfl (fun _ => stepG_skip) ?_
  first
  | refine Seg.ctl rfl (fun _ => stepG_seq) ?_
  | refine Seg.ctl rfl (fun _ => stepG_region_end) ?_
  | (refine Seg.ctl rfl (fun _ => stepG_region) ?_; simp only [List.size_toArray, List.length_cons, List.length_nil, Nat.reduceAdd, Nat.zero_add, List.range, List.range.loop])
  | refine Seg.ctl rfl (fun _ => stepG_block) ?_
  | refine Seg.ctl rfl (fun _ => stepG_inBlock) ?_
  | refine Seg.ctl rfl (fun _ => stepG_ret') ?_
  | refine Seg.ctl rfl (fun _ => stepG_loop) ?_
  | refine Seg.ctl rfl (fun _ => stepG_inLoop) ?_
  | refine Seg.ctl rfl (fun _ => stepG_skip) ?_
  refine Seg.load D.cn (A := ⟨bm, 0, none⟩) (vs := [.chan (some c)]) rfl rfl (by decide) rfl (by simp [ev_put_ne, ev_put_eq, ev_const, sz_put, hs, h0, h1]) (.one Try.underlying60 rfl) (ck1 (D.msg.ck hO)) ?_
  simp only [List.getElem_toArray, List.getElem_cons_succ, List.getElem_cons_zero, ev_put_none]
  refine Seg.ctl rfl (Classical.choose_spec (stepG_deferB rfl rfl (by decide) rfl)) ?_
  simp only [List.getElem_toArray, List.getElem_cons_succ, List.getElem_cons_zero, ev_put_none]
  generalize Classical.choose _ = cs'
  generalize hb : Act.mk (a.put (some 4) (Value.chan (some c))).tmps _ = b
  have hsb : b.tmps.size = 52 := by rw [← hb]; simp [sz_put, hs]
  have h0b : b.eval (.tmp 0) = .pointer (some ⟨bm, 0, none⟩) := by rw [← hb]; show (a.put (some 4) (Value.chan (some c))).eval (.tmp 0) = _; exact (by simp [ev_put_ne, ev_put_eq, ev_const, sz_put, hs, h0, h1])
  have h1b : b.eval (.tmp 1) = .pointer (some ⟨bd, 0, none⟩) := by rw [← hb]; show (a.put (some 4) (Value.chan (some c))).eval (.tmp 1) = _; exact (by simp [ev_put_ne, ev_put_eq, ev_const, sz_put, hs, h0, h1])
  have hdb : ∃ ty cs, b.defers = [{ target := .builtin .close #[60] ty cs, args := #[.chan (some c)] }] := ⟨0, cs', by rw [← hb]; simp [df_put, hd, ev_put_eq, hs]⟩
  clear hb h0 h1 hs hd e
  obtain ⟨ty, cs'', hdb⟩ := hdb
  first
  | refine Seg.ctl rfl (fun _ => stepG_seq) ?_
  | refine Seg.ctl rfl (fun _ => stepG_region_end) ?_
  | (refine Seg.ctl rfl (fun _ => stepG_region) ?_; simp only [List.size_toArray, List.length_cons, List.length_nil, Nat.reduceAdd, Nat.zero_add, List.range, List.range.loop])
  | refine Seg.ctl rfl (fun _ => stepG_block) ?_
  | refine Seg.ctl rfl (fun _ => stepG_inBlock) ?_
  | refine Seg.ctl rfl (fun _ => stepG_ret') ?_
  | refine Seg.ctl rfl (fun _ => stepG_loop) ?_
  | refine Seg.ctl rfl (fun _ => stepG_inLoop) ?_
  | refine Seg.ctl rfl (fun _ => stepG_skip) ?_
  first
  | refine Seg.ctl rfl (fun _ => stepG_seq) ?_
  | refine Seg.ctl rfl (fun _ => stepG_region_end) ?_
  | (refine Seg.ctl rfl (fun _ => stepG_region) ?_; simp only [List.size_toArray, List.length_cons, List.length_nil, Nat.reduceAdd, Nat.zero_add, List.range, List.range.loop])
  | refine Seg.ctl rfl (fun _ => stepG_block) ?_
  | refine Seg.ctl rfl (fun _ => stepG_inBlock) ?_
  | refine Seg.ctl rfl (fun _ => stepG_ret') ?_
  | refine Seg.ctl rfl (fun _ => stepG_loop) ?_
  | refine Seg.ctl rfl (fun _ => stepG_inLoop) ?_
  | refine Seg.ctl rfl (fun _ => stepG_skip) ?_
  first
  | refine Seg.ctl rfl (fun _ => stepG_seq) ?_
  | refine Seg.ctl rfl (fun _ => stepG_region_end) ?_
  | (refine Seg.ctl rfl (fun _ => stepG_region) ?_; simp only [List.size_toArray, List.length_cons, List.length_nil, Nat.reduceAdd, Nat.zero_add, List.range, List.range.loop])
  | refine Seg.ctl rfl (fun _ => stepG_block) ?_
  | refine Seg.ctl rfl (fun _ => stepG_inBlock) ?_
  | refine Seg.ctl rfl (fun _ => stepG_ret') ?_
  | refine Seg.ctl rfl (fun _ => stepG_loop) ?_
  | refine Seg.ctl rfl (fun _ => stepG_inLoop) ?_
  | refine Seg.ctl rfl (fun _ => stepG_skip) ?_
  refine Seg.new D.cn hO.size rfl rfl (by decide) (.cells #[.slice none 0 0, .slice none 0 0] 32) (fun g => .pointer (some ⟨g, 0, none⟩)) (fun w => ?_) (fun w => ?_) fun w1 o1 kn r hg hm K => ?_
  · simp [go_sem, execOp, Instr.alloc, newVar, newRow, Value.cells]
  · simp [go_sem, execOp, Instr.alloc, newVar, newRow, Value.cells]
  have hO1 := hO.rx r (by simp)
  have hnk : nf ≤ kn := Nat.le_trans hO.size hg
  clear r
  simp only [List.getElem_toArray, List.getElem_cons_succ, List.getElem_cons_zero, ev_put_none]
  first
  | refine Seg.ctl rfl (fun _ => stepG_seq) ?_
  | refine Seg.ctl rfl (fun _ => stepG_region_end) ?_
  | (refine Seg.ctl rfl (fun _ => stepG_region) ?_; simp only [List.size_toArray, List.length_cons, List.length_nil, Nat.reduceAdd, Nat.zero_add, List.range, List.range.loop])
  | refine Seg.ctl rfl (fun _ => stepG_block) ?_
  | refine Seg.ctl rfl (fun _ => stepG_inBlock) ?_
  | refine Seg.ctl rfl (fun _ => stepG_ret') ?_
  | refine Seg.ctl rfl (fun _ => stepG_loop) ?_
  | refine Seg.ctl rfl (fun _ => stepG_inLoop) ?_
  | refine Seg.ctl rfl (fun _ => stepG_skip) ?_
  first
  | refine Seg.ctl rfl (fun _ => stepG_seq) ?_
  | refine Seg.ctl rfl (fun _ => stepG_region_end) ?_
  | (refine Seg.ctl rfl (fun _ => stepG_region) ?_; simp only [List.size_toArray, List.length_cons, List.length_nil, Nat.reduceAdd, Nat.zero_add, List.range, List.range.loop])
  | refine Seg.ctl rfl (fun _ => stepG_block) ?_
  | refine Seg.ctl rfl (fun _ => stepG_inBlock) ?_
  | refine Seg.ctl rfl (fun _ => stepG_ret') ?_
  | refine Seg.ctl rfl (fun _ => stepG_loop) ?_
  | refine Seg.ctl rfl (fun _ => stepG_inLoop) ?_
  | refine Seg.ctl rfl (fun _ => stepG_skip) ?_
  first
  | refine Seg.ctl rfl (fun _ => stepG_seq) ?_
  | refine Seg.ctl rfl (fun _ => stepG_region_end) ?_
  | (refine Seg.ctl rfl (fun _ => stepG_region) ?_; simp only [List.size_toArray, List.length_cons, List.length_nil, Nat.reduceAdd, Nat.zero_add, List.range, List.range.loop])
  | refine Seg.ctl rfl (fun _ => stepG_block) ?_
  | refine Seg.ctl rfl (fun _ => stepG_inBlock) ?_
  | refine Seg.ctl rfl (fun _ => stepG_ret') ?_
  | refine Seg.ctl rfl (fun _ => stepG_loop) ?_
  | refine Seg.ctl rfl (fun _ => stepG_inLoop) ?_
  | refine Seg.ctl rfl (fun _ => stepG_skip) ?_
  first
  | refine Seg.ctl rfl (fun _ => stepG_seq) ?_
  | refine Seg.ctl rfl (fun _ => stepG_region_end) ?_
  | (refine Seg.ctl rfl (fun _ => stepG_region) ?_; simp only [List.size_toArray, List.length_cons, List.length_nil, Nat.reduceAdd, Nat.zero_add, List.range, List.range.loop])
  | refine Seg.ctl rfl (fun _ => stepG_block) ?_
  | refine Seg.ctl rfl (fun _ => stepG_inBlock) ?_
  | refine Seg.ctl rfl (fun _ => stepG_ret') ?_
  | refine Seg.ctl rfl (fun _ => stepG_loop) ?_
  | refine Seg.ctl rfl (fun _ => stepG_inLoop) ?_
  | refine Seg.ctl rfl (fun _ => stepG_skip) ?_
  refine Seg.load D.cn (A := ⟨bd, 0, none⟩) (vs := [.slice a1 N1 c1, .slice a2 N2 c2]) rfl rfl (by decide) rfl (by simp [ev_put_ne, ev_put_eq, ev_const, sz_put, hsb, h0b, h1b]) (.agg Try.underlying32 rfl Try.type32 rfl (by simp)) (fun j u hj => ?_) ?_
  · have := (D.box j u (by simpa using hj)).ck (me := false) (o := o1) hO1
    have e : (⟨bd, 0, none⟩ : Addr).add j = ⟨bd, j, none⟩ := by unfold Addr.add; split <;> simp_all
    rw [e]; exact this
  simp only [List.getElem_toArray, List.getElem_cons_succ, List.getElem_cons_zero, ev_put_none]
  refine Seg.le (Seg.callO (n := 300) (vs := #[.agg #[.slice a1 N1 c1, .slice a2 N2 c2]]) rfl rfl (by decide) rfl Try.func14 (by kernel_rfl) rfl (by simp [ev_put_ne, ev_put_eq, ev_const, sz_put, hsb, h0b, h1b]) (deltaMany_o D.cn hO1.size a1 a2 N1 c1 N2 c2 D.few) fun v w2 o2 h => ?_) (by omega)
  obtain ⟨rfl, r⟩ := h
  have W : NowW nf c w0 w2 o2 kn 0 0 (Cnt Ds Ls [] 0) := ⟨_, _, _, _, [], ⟨hO1.rx r (by simp), hnk, (r.own _ K.lt).trans hm, K.rx r (by simp), OwnO.nil .., OwnO.nil .., fun p hp => (by cases hp), fun p hp => (by cases hp)⟩, cnt_start⟩
  clear r K hm
  simp only [List.getElem_toArray, List.getElem_cons_succ, List.getElem_cons_zero, ev_put_none]
  refine Seg.pu (Pu.move (v := .int .i64 0) rfl (by simp [ev_put_ne, ev_put_eq, ev_const, sz_put, hsb, h0b, h1b])) rfl rfl (by decide) ?_
  simp only [List.getElem_toArray, List.getElem_cons_succ, List.getElem_cons_zero, ev_put_none]
  first
  | refine Seg.ctl rfl (fun _ => stepG_seq) ?_
  | refine Seg.ctl rfl (fun _ => stepG_region_end) ?_
  | (refine Seg.ctl rfl (fun _ => stepG_region) ?_; simp only [List.size_toArray, List.length_cons, List.length_nil, Nat.reduceAdd, Nat.zero_add, List.range, List.range.loop])
  | refine Seg.ctl rfl (fun _ => stepG_block) ?_
  | refine Seg.ctl rfl (fun _ => stepG_inBlock) ?_
  | refine Seg.ctl rfl (fun _ => stepG_ret') ?_
  | refine Seg.ctl rfl (fun _ => stepG_loop) ?_
  | refine Seg.ctl rfl (fun _ => stepG_inLoop) ?_
  | refine Seg.ctl rfl (fun _ => stepG_skip) ?_
  first
  | refine Seg.ctl rfl (fun _ => stepG_seq) ?_
  | refine Seg.ctl rfl (fun _ => stepG_region_end) ?_
  | (refine Seg.ctl rfl (fun _ => stepG_region) ?_; simp only [List.size_toArray, List.length_cons, List.length_nil, Nat.reduceAdd, Nat.zero_add, List.range, List.range.loop])
  | refine Seg.ctl rfl (fun _ => stepG_block) ?_
  | refine Seg.ctl rfl (fun _ => stepG_inBlock) ?_
  | refine Seg.ctl rfl (fun _ => stepG_ret') ?_
  | refine Seg.ctl rfl (fun _ => stepG_loop) ?_
  | refine Seg.ctl rfl (fun _ => stepG_inLoop) ?_
  | refine Seg.ctl rfl (fun _ => stepG_skip) ?_
  refine Seg.ctl rfl (fun _ => stepG_loop) ?_
  subst hL hT
  exact Seg.done ⟨_, kn, rfl, ⟨by simp [sz_put, hsb], ⟨ty, cs'', by simpa [df_put] using hdb⟩, (by simp [ev_put_ne, ev_put_eq, ev_const, sz_put, hsb, h0b, h1b]), (by simp [ev_put_ne, ev_put_eq, ev_const, sz_put, hsb, h0b, h1b]), (by simp [ev_put_ne, ev_put_eq, ev_const, sz_put, hsb, h0b, h1b]), (by simp [ev_put_ne, ev_put_eq, ev_const, sz_put, hsb, h0b, h1b]), (by simp [ev_put_ne, ev_put_eq, ev_const, sz_put, hsb, h0b, h1b])⟩, W⟩
end
end Go.Proofs.Ytjkfnjjkjhggfaa
