/- The worker of impl.DeltaCut: from the loop's head to behind the round's append, where a route is appended. The worker of impl.DeltaCut: behind the round's append; the sends; the way out. -/
import Derived.Test.YtjkfnjjkjhggfaaZ28
set_option linter.unusedSimpArgs false
set_option linter.unusedVariables false
namespace Go.Proofs.Ytjkfnjjkjhggfaa
open Go.Conc Go.RowKit

set_option maxHeartbeats 1000000 in
theorem round_tell {nf c bm bd kn N k n1 n2 N1 N2 : Nat} {w0 w : World} {o : Who} {s1 s2 : Value} {Ds : List (Int × Int)} {Ls : List (Int × Int × Int × List Int × List Int)} {C C' : Ctn} (D : DataO nf c w0 bm bd s1 s2 N1 N2 Ds Ls) {a : Act} (S : SlotsW a c bm bd kn N k) (W : NowW nf c w0 w o kn n1 n2 C) (hN : N = N1 + N2) (hk1 : N1 ≤ k) (hk : k < N) (hn2 : n2 ≤ 3)
    (hC2 : ∀ xs1 xs2 M M' f b l p q A B, Ls[k - N1]? = some (f, b, l, A, B) → C xs1 xs2 M → (∀ x ∈ M, x ∈ M') → (∀ w', HasM M' w' → w'.ownsRow nf 3 1 p (A.map (Value.int .i64)).length (A.map (Value.int .i64)) ∧ w'.ownsRow nf 3 1 q (B.map (Value.int .i64)).length (B.map (Value.int .i64))) → C' xs1 (xs2 ++ [.int .i64 f, .int .i64 b, p, .int .i64 l, q]) M') :
    Seg Try.prog nf c false (fun g' w' o' => ∃ a', g' = G ((baseD 34).at a' [.code restW, .inBlock 1, .code incW, .inLoop loopW, .inBlock 0, .code tailW]) [botW] ∧ SlotsW a' c bm bd kn N k ∧ NowW nf c w0 w' o' kn n1 (n2 + 1) C')
      16000 (G ((baseD 34).at a [.code loopW, .inLoop loopW, .inBlock 0, .code tailW]) [botW]) w o := by
  obtain ⟨v1, v2, xs1, xs2, M, W, hC⟩ := W
  generalize hL : Item.inLoop loopW = IL
  simp only [loopW, bodyW, Try.f34, Option.getD_some]
  first
  | refine Seg.ctl rfl (fun _ => stepG_seq) ?_
  | refine Seg.ctl rfl (fun _ => stepG_region_end) ?_
  | (refine Seg.ctl rfl (fun _ => stepG_region) ?_; simp only [List.size_toArray, List.length_cons, List.length_nil, Nat.reduceAdd, Nat.zero_add, List.range, List.range.loop])
  | refine Seg.ctl rfl (fun _ => stepG_block) ?_
  | refine Seg.ctl rfl (fun _ => stepG_inBlock) ?_
  | refine Seg.ctl rfl (fun _ => stepG_ret') ?_
  | refine Seg.ctl rfl (fun _ => stepG_loop) ?_
  | refine Seg.ctl rfl (fun _ => stepG_inLoop) ?_
  | refine Seg.ctl rfl (fun _ => stepG_skip) ?_
  first
  | refine Seg.ctl rfl (fun _ => stepG_seq) ?_
  | refine Seg.ctl rfl (fun _ => stepG_region_end) ?_
  | (refine Seg.ctl rfl (fun _ => stepG_region) ?_; simp only [List.size_toArray, List.length_cons, List.length_nil, Nat.reduceAdd, Nat.zero_add, List.range, List.range.loop])
  | refine Seg.ctl rfl (fun _ => stepG_block) ?_
  | refine Seg.ctl rfl (fun _ => stepG_inBlock) ?_
  | refine Seg.ctl rfl (fun _ => stepG_ret') ?_
  | refine Seg.ctl rfl (fun _ => stepG_loop) ?_
  | refine Seg.ctl rfl (fun _ => stepG_inLoop) ?_
  | refine Seg.ctl rfl (fun _ => stepG_skip) ?_
  refine Seg.pu (Pu.bin (v := .bool true) (m := k) (l := N) rfl (by simp [ev_put_ne, ev_put_eq, ev_const, sz_put, S.size, S.t0, S.t1, S.t2, S.t6, S.t7]) (by simp [ev_put_ne, ev_put_eq, ev_const, sz_put, S.size, S.t0, S.t1, S.t2, S.t6, S.t7]) (by rw [bin_lss, decide_eq_true]; omega)) rfl rfl (by decide) ?_
  simp only [List.getElem_toArray, List.getElem_cons_succ, List.getElem_cons_zero, ev_put_none]
  first
  | refine Seg.ctl rfl (fun _ => stepG_seq) ?_
  | refine Seg.ctl rfl (fun _ => stepG_region_end) ?_
  | (refine Seg.ctl rfl (fun _ => stepG_region) ?_; simp only [List.size_toArray, List.length_cons, List.length_nil, Nat.reduceAdd, Nat.zero_add, List.range, List.range.loop])
  | refine Seg.ctl rfl (fun _ => stepG_block) ?_
  | refine Seg.ctl rfl (fun _ => stepG_inBlock) ?_
  | refine Seg.ctl rfl (fun _ => stepG_ret') ?_
  | refine Seg.ctl rfl (fun _ => stepG_loop) ?_
  | refine Seg.ctl rfl (fun _ => stepG_inLoop) ?_
  | refine Seg.ctl rfl (fun _ => stepG_skip) ?_
  first
  | refine Seg.ctl rfl (fun _ => stepG_seq) ?_
  | refine Seg.ctl rfl (fun _ => stepG_region_end) ?_
  | (refine Seg.ctl rfl (fun _ => stepG_region) ?_; simp only [List.size_toArray, List.length_cons, List.length_nil, Nat.reduceAdd, Nat.zero_add, List.range, List.range.loop])
  | refine Seg.ctl rfl (fun _ => stepG_block) ?_
  | refine Seg.ctl rfl (fun _ => stepG_inBlock) ?_
  | refine Seg.ctl rfl (fun _ => stepG_ret') ?_
  | refine Seg.ctl rfl (fun _ => stepG_loop) ?_
  | refine Seg.ctl rfl (fun _ => stepG_inLoop) ?_
  | refine Seg.ctl rfl (fun _ => stepG_skip) ?_
  refine Seg.ctl rfl (fun _ => stepG_cond (t := true) (by simp [ev_put_ne, ev_put_eq, ev_const, sz_put, S.size, S.t0, S.t1, S.t2, S.t6, S.t7])) ?_
  simp only [if_true]
  first
  | refine Seg.ctl rfl (fun _ => stepG_seq) ?_
  | refine Seg.ctl rfl (fun _ => stepG_region_end) ?_
  | (refine Seg.ctl rfl (fun _ => stepG_region) ?_; simp only [List.size_toArray, List.length_cons, List.length_nil, Nat.reduceAdd, Nat.zero_add, List.range, List.range.loop])
  | refine Seg.ctl rfl (fun _ => stepG_block) ?_
  | refine Seg.ctl rfl (fun _ => stepG_inBlock) ?_
  | refine Seg.ctl rfl (fun _ => stepG_ret') ?_
  | refine Seg.ctl rfl (fun _ => stepG_loop) ?_
  | refine Seg.ctl rfl (fun _ => stepG_inLoop) ?_
  | refine Seg.ctl rfl (fun _ => stepG_skip) ?_
  first
  | refine Seg.ctl rfl (fun _ => stepG_seq) ?_
  | refine Seg.ctl rfl (fun _ => stepG_region_end) ?_
  | (refine Seg.ctl rfl (fun _ => stepG_region) ?_; simp only [List.size_toArray, List.length_cons, List.length_nil, Nat.reduceAdd, Nat.zero_add, List.range, List.range.loop])
  | refine Seg.ctl rfl (fun _ => stepG_block) ?_
  | refine Seg.ctl rfl (fun _ => stepG_inBlock) ?_
  | refine Seg.ctl rfl (fun _ => stepG_ret') ?_
  | refine Seg.ctl rfl (fun _ => stepG_loop) ?_
  | refine Seg.ctl rfl (fun _ => stepG_inLoop) ?_
  | refine Seg.ctl rfl (fun _ => stepG_skip) ?_
  first
  | refine Seg.ctl rfl (fun _ => stepG_seq) ?_
  | refine Seg.ctl rfl (fun _ => stepG_region_end) ?_
  | (refine Seg.ctl rfl (fun _ => stepG_region) ?_; simp only [List.size_toArray, List.length_cons, List.length_nil, Nat.reduceAdd, Nat.zero_add, List.range, List.range.loop])
  | refine Seg.ctl rfl (fun _ => stepG_block) ?_
  | refine Seg.ctl rfl (fun _ => stepG_inBlock) ?_
  | refine Seg.ctl rfl (fun _ => stepG_ret') ?_
  | refine Seg.ctl rfl (fun _ => stepG_loop) ?_
  | refine Seg.ctl rfl (fun _ => stepG_inLoop) ?_
  | refine Seg.ctl rfl (fun _ => stepG_skip) ?_
  first
  | refine Seg.ctl rfl (fun _ => stepG_seq) ?_
  | refine Seg.ctl rfl (fun _ => stepG_region_end) ?_
  | (refine Seg.ctl rfl (fun _ => stepG_region) ?_; simp only [List.size_toArray, List.length_cons, List.length_nil, Nat.reduceAdd, Nat.zero_add, List.range, List.range.loop])
  | refine Seg.ctl rfl (fun _ => stepG_block) ?_
  | refine Seg.ctl rfl (fun _ => stepG_inBlock) ?_
  | refine Seg.ctl rfl (fun _ => stepG_ret') ?_
  | refine Seg.ctl rfl (fun _ => stepG_loop) ?_
  | refine Seg.ctl rfl (fun _ => stepG_inLoop) ?_
  | refine Seg.ctl rfl (fun _ => stepG_skip) ?_
  first
  | refine Seg.ctl rfl (fun _ => stepG_seq) ?_
  | refine Seg.ctl rfl (fun _ => stepG_region_end) ?_
  | (refine Seg.ctl rfl (fun _ => stepG_region) ?_; simp only [List.size_toArray, List.length_cons, List.length_nil, Nat.reduceAdd, Nat.zero_add, List.range, List.range.loop])
  | refine Seg.ctl rfl (fun _ => stepG_block) ?_
  | refine Seg.ctl rfl (fun _ => stepG_inBlock) ?_
  | refine Seg.ctl rfl (fun _ => stepG_ret') ?_
  | refine Seg.ctl rfl (fun _ => stepG_loop) ?_
  | refine Seg.ctl rfl (fun _ => stepG_inLoop) ?_
  | refine Seg.ctl rfl (fun _ => stepG_skip) ?_
  refine Seg.pu (Pu.move (v := .int .i64 k) rfl (by simp [ev_put_ne, ev_put_eq, ev_const, sz_put, S.size, S.t0, S.t1, S.t2, S.t6, S.t7])) rfl rfl (by decide) ?_
  simp only [List.getElem_toArray, List.getElem_cons_succ, List.getElem_cons_zero, ev_put_none]
  refine Seg.pu (Pu.assign (v := .int .i64 k) rfl (by simp [ev_put_ne, ev_put_eq, ev_const, sz_put, S.size, S.t0, S.t1, S.t2, S.t6, S.t7])) rfl rfl (by decide) ?_
  simp only [List.getElem_toArray, List.getElem_cons_succ, List.getElem_cons_zero, ev_put_none]
  first
  | refine Seg.ctl rfl (fun _ => stepG_seq) ?_
  | refine Seg.ctl rfl (fun _ => stepG_region_end) ?_
  | (refine Seg.ctl rfl (fun _ => stepG_region) ?_; simp only [List.size_toArray, List.length_cons, List.length_nil, Nat.reduceAdd, Nat.zero_add, List.range, List.range.loop])
  | refine Seg.ctl rfl (fun _ => stepG_block) ?_
  | refine Seg.ctl rfl (fun _ => stepG_inBlock) ?_
  | refine Seg.ctl rfl (fun _ => stepG_ret') ?_
  | refine Seg.ctl rfl (fun _ => stepG_loop) ?_
  | refine Seg.ctl rfl (fun _ => stepG_inLoop) ?_
  | refine Seg.ctl rfl (fun _ => stepG_skip) ?_
  first
  | refine Seg.ctl rfl (fun _ => stepG_seq) ?_
  | refine Seg.ctl rfl (fun _ => stepG_region_end) ?_
  | (refine Seg.ctl rfl (fun _ => stepG_region) ?_; simp only [List.size_toArray, List.length_cons, List.length_nil, Nat.reduceAdd, Nat.zero_add, List.range, List.range.loop])
  | refine Seg.ctl rfl (fun _ => stepG_block) ?_
  | refine Seg.ctl rfl (fun _ => stepG_inBlock) ?_
  | refine Seg.ctl rfl (fun _ => stepG_ret') ?_
  | refine Seg.ctl rfl (fun _ => stepG_loop) ?_
  | refine Seg.ctl rfl (fun _ => stepG_inLoop) ?_
  | refine Seg.ctl rfl (fun _ => stepG_skip) ?_
  first
  | refine Seg.ctl rfl (fun _ => stepG_seq) ?_
  | refine Seg.ctl rfl (fun _ => stepG_region_end) ?_
  | (refine Seg.ctl rfl (fun _ => stepG_region) ?_; simp only [List.size_toArray, List.length_cons, List.length_nil, Nat.reduceAdd, Nat.zero_add, List.range, List.range.loop])
  | refine Seg.ctl rfl (fun _ => stepG_block) ?_
  | refine Seg.ctl rfl (fun _ => stepG_inBlock) ?_
  | refine Seg.ctl rfl (fun _ => stepG_ret') ?_
  | refine Seg.ctl rfl (fun _ => stepG_loop) ?_
  | refine Seg.ctl rfl (fun _ => stepG_inLoop) ?_
  | refine Seg.ctl rfl (fun _ => stepG_skip) ?_
  first
  | refine Seg.ctl rfl (fun _ => stepG_seq) ?_
  | refine Seg.ctl rfl (fun _ => stepG_region_end) ?_
  | (refine Seg.ctl rfl (fun _ => stepG_region) ?_; simp only [List.size_toArray, List.length_cons, List.length_nil, Nat.reduceAdd, Nat.zero_add, List.range, List.range.loop])
  | refine Seg.ctl rfl (fun _ => stepG_block) ?_
  | refine Seg.ctl rfl (fun _ => stepG_inBlock) ?_
  | refine Seg.ctl rfl (fun _ => stepG_ret') ?_
  | refine Seg.ctl rfl (fun _ => stepG_loop) ?_
  | refine Seg.ctl rfl (fun _ => stepG_inLoop) ?_
  | refine Seg.ctl rfl (fun _ => stepG_skip) ?_
  obtain ⟨j, rfl⟩ := Nat.exists_eq_add_of_le hk1
  obtain ⟨ad, cp, f, b, p, l, q, A, B, A', B', ⟨hLj, hA', hB'⟩, rfl, hcell, hp, hq, hA, hB⟩ := D.tell j (by omega)
  have hC3 : ∀ {p q : Value} (Mp Mq : List (Nat × Obj)), (∀ w', HasM Mp w' → w'.ownsRow nf 3 1 p A.length A) → (∀ w', HasM Mq w' → w'.ownsRow nf 3 1 q B.length B) → C' xs1 (xs2 ++ [.int .i64 f, .int .i64 b, p, .int .i64 l, q]) (M ++ Mp ++ Mq) := fun Mp Mq h1 h2 => by
    refine hC2 _ _ _ _ _ _ _ _ _ A' B' (by rw [Nat.add_sub_cancel_left]; exact hLj) hC (fun x hx => List.mem_append_left _ (List.mem_append_left _ hx)) (fun w' hw => ?_)
    rw [← hA', ← hB']
    exact ⟨h1 w' hw.app.1.app.2, h2 w' hw.app.2⟩
  obtain ⟨a1, c1, rfl⟩ := D.sh1
  refine Seg.pu (Pu.move (v := .int .i64 (N1 + j : Nat)) rfl (by simp [ev_put_ne, ev_put_eq, ev_const, sz_put, S.size, S.t0, S.t1, S.t2, S.t6, S.t7])) rfl rfl (by decide) ?_
  simp only [List.getElem_toArray, List.getElem_cons_succ, List.getElem_cons_zero, ev_put_none]
  refine Seg.pu (pu_f0 (g := bd) rfl (by simp [ev_put_ne, ev_put_eq, ev_const, sz_put, S.size, S.t0, S.t1, S.t2, S.t6, S.t7])) rfl rfl (by decide) ?_
  simp only [List.getElem_toArray, List.getElem_cons_succ, List.getElem_cons_zero, ev_put_none]
  refine Seg.load D.cn (A := ⟨bd, 0, none⟩) (vs := [.slice a1 N1 c1]) rfl rfl (by decide) rfl (by simp [ev_put_ne, ev_put_eq, ev_const, sz_put, S.size, S.t0, S.t1, S.t2, S.t6, S.t7]) (.one Try.underlying29 rfl) (ck1 ((D.box 0 _ rfl).ck W.old)) ?_
  simp only [List.getElem_toArray, List.getElem_cons_succ, List.getElem_cons_zero, ev_put_none]
  refine Seg.pu (Pu.len (ao := a1) (m := N1) (cp := c1) rfl Try.underlying29 (by simp [ev_put_ne, ev_put_eq, ev_const, sz_put, S.size, S.t0, S.t1, S.t2, S.t6, S.t7])) rfl rfl (by decide) ?_
  simp only [List.getElem_toArray, List.getElem_cons_succ, List.getElem_cons_zero, ev_put_none]
  refine Seg.pu (Pu.bin (v := .bool false) (m := (N1 + j : Nat)) (l := N1) rfl (by simp [ev_put_ne, ev_put_eq, ev_const, sz_put, S.size, S.t0, S.t1, S.t2, S.t6, S.t7]) (by simp [ev_put_ne, ev_put_eq, ev_const, sz_put, S.size, S.t0, S.t1, S.t2, S.t6, S.t7]) (by rw [bin_lss, decide_eq_false]; omega)) rfl rfl (by decide) ?_
  simp only [List.getElem_toArray, List.getElem_cons_succ, List.getElem_cons_zero, ev_put_none]
  first
  | refine Seg.ctl rfl (fun _ => stepG_seq) ?_
  | refine Seg.ctl rfl (fun _ => stepG_region_end) ?_
  | (refine Seg.ctl rfl (fun _ => stepG_region) ?_; simp only [List.size_toArray, List.length_cons, List.length_nil, Nat.reduceAdd, Nat.zero_add, List.range, List.range.loop])
  | refine Seg.ctl rfl (fun _ => stepG_block) ?_
  | refine Seg.ctl rfl (fun _ => stepG_inBlock) ?_
  | refine Seg.ctl rfl (fun _ => stepG_ret') ?_
  | refine Seg.ctl rfl (fun _ => stepG_loop) ?_
  | refine Seg.ctl rfl (fun _ => stepG_inLoop) ?_
  | refine Seg.ctl rfl (fun _ => stepG_skip) ?_
  refine Seg.ctl rfl (fun _ => stepG_cond (t := false) (by simp [ev_put_ne, ev_put_eq, ev_const, sz_put, S.size, S.t0, S.t1, S.t2, S.t6, S.t7])) ?_
  simp only [if_false, Bool.false_eq_true]
  refine Seg.le (Seg.region (N := 900) (n := 100) (w0 := w0) (fn := 34) (by decide) (by kernel_rfl) fun w3 o3 r3 => ?_) ?_
  rotate_left
  · simp only [List.size_toArray, List.length_cons, List.length_nil]; omega
  simp only [List.size_toArray, List.length_cons, List.length_nil, Nat.reduceAdd, Nat.zero_add]
  have hO : OldO nf c w0 w3 := W.old.ro r3
  have hMo := W.nM
  let F : List (Nat × Obj) → World → Who → Prop := fun M w4 o4 => Kn nf c false w4 o4 kn (.cells #[v1, v2] 32) ∧ o4 kn = false ∧ OwnO nf false w4 o4 62 2 v1 n1 xs1 ∧ OwnO nf false w4 o4 64 5 v2 n2 xs2 ∧ OldO nf c w0 w4 ∧ KnM nf c w4 o4 M
  have Frx : ∀ {M w4 o4 w5 o5}, F M w4 o4 → RX nf c false none w4 o4 w5 o5 → F M w5 o5 := fun ⟨a1, a2, a3, a4, a5, a6⟩ r => ⟨a1.rx r (by simp), (r.own _ a1.lt).trans a2, a3.rx D.cn r (by simp), a4.rx D.cn r (by simp), a5.rx r (by simp), a6.rx r (by simp)⟩
  have Fapp : ∀ {M M' w4 o4}, F M w4 o4 → KnM nf c w4 o4 M' → F (M ++ M') w4 o4 := fun ⟨a1, a2, a3, a4, a5, a6⟩ r => ⟨a1, a2, a3, a4, a5, a6.app r⟩
  have hF : F M w3 o3 := Frx ⟨W.K, W.mine, W.h1, W.h2, W.old, W.kM⟩ (r3.rx none)
  clear r3
  refine anyO_take (fun _ _ _ _ _ x r => x.rely r) (i := 0) (.pointer (some ⟨kn, 1, none⟩)) rfl (by kernel_rfl) (by kernel_rfl) (by kernel_rfl) (QuietO.pu (pu_f1 rfl (by simp [ev_put_ne, ev_put_eq, ev_const, sz_put, S.size, S.t0, S.t1, S.t2, S.t6, S.t7])) rfl) hO ?_
  simp only [List.getElem_toArray, List.getElem_cons_succ, List.getElem_cons_zero, ev_put_none]
  refine anyO_take (fun _ _ _ _ _ x r => x.rely r) (i := 2) (.pointer (some ⟨bd, 1, none⟩)) rfl (by kernel_rfl) (by kernel_rfl) (by kernel_rfl) (QuietO.pu (pu_f1 rfl (by simp [ev_put_ne, ev_put_eq, ev_const, sz_put, S.size, S.t0, S.t1, S.t2, S.t6, S.t7])) rfl) hO ?_
  simp only [List.getElem_toArray, List.getElem_cons_succ, List.getElem_cons_zero, ev_put_none]
  refine anyO_take (fun _ _ _ _ _ x r => x.rely r) (i := 3) (.slice (some ad) N2 cp) rfl (by kernel_rfl) (by kernel_rfl) (by kernel_rfl) (QuietO.load D.cn (A := ⟨bd, 1, none⟩) (vs := [.slice (some ad) N2 cp]) rfl rfl (by simp [ev_put_ne, ev_put_eq, ev_const, sz_put, S.size, S.t0, S.t1, S.t2, S.t6, S.t7]) (.one Try.underlying30 rfl) (cko1 (D.box 1 _ rfl))) hO ?_
  simp only [List.getElem_toArray, List.getElem_cons_succ, List.getElem_cons_zero, ev_put_none]
  refine anyO_take (fun _ _ _ _ _ x r => x.rely r) (i := 4) (.int .i64 (N1 + j : Nat)) rfl (by kernel_rfl) (by kernel_rfl) (by kernel_rfl) (QuietO.pu (Pu.move rfl (by simp [ev_put_ne, ev_put_eq, ev_const, sz_put, S.size, S.t0, S.t1, S.t2, S.t6, S.t7])) rfl) hO ?_
  simp only [List.getElem_toArray, List.getElem_cons_succ, List.getElem_cons_zero, ev_put_none]
  refine anyO_take (fun _ _ _ _ _ x r => x.rely r) (i := 5) (.pointer (some ⟨bd, 0, none⟩)) rfl (by kernel_rfl) (by kernel_rfl) (by kernel_rfl) (QuietO.pu (pu_f0 rfl (by simp [ev_put_ne, ev_put_eq, ev_const, sz_put, S.size, S.t0, S.t1, S.t2, S.t6, S.t7])) rfl) hO ?_
  simp only [List.getElem_toArray, List.getElem_cons_succ, List.getElem_cons_zero, ev_put_none]
  refine anyO_take (fun _ _ _ _ _ x r => x.rely r) (i := 6) (.slice a1 N1 c1) rfl (by kernel_rfl) (by kernel_rfl) (by kernel_rfl) (QuietO.load D.cn (A := ⟨bd, 0, none⟩) (vs := [.slice a1 N1 c1]) rfl rfl (by simp [ev_put_ne, ev_put_eq, ev_const, sz_put, S.size, S.t0, S.t1, S.t2, S.t6, S.t7]) (.one Try.underlying29 rfl) (cko1 (D.box 0 _ rfl))) hO ?_
  simp only [List.getElem_toArray, List.getElem_cons_succ, List.getElem_cons_zero, ev_put_none]
  refine anyO_take (fun _ _ _ _ _ x r => x.rely r) (i := 7) (.int .i64 N1) rfl (by kernel_rfl) (by kernel_rfl) (by kernel_rfl) (QuietO.pu (Pu.len (ao := a1) (m := N1) (cp := c1) rfl Try.underlying29 (by simp [ev_put_ne, ev_put_eq, ev_const, sz_put, S.size, S.t0, S.t1, S.t2, S.t6, S.t7])) rfl) hO ?_
  simp only [List.getElem_toArray, List.getElem_cons_succ, List.getElem_cons_zero, ev_put_none]
  refine anyO_take (fun _ _ _ _ _ x r => x.rely r) (i := 8) (.int .i64 (j : Nat)) rfl (by kernel_rfl) (by kernel_rfl) (by kernel_rfl) (QuietO.pu (Pu.bin (m := (N1 + j : Nat)) (l := N1) rfl (by simp [ev_put_ne, ev_put_eq, ev_const, sz_put, S.size, S.t0, S.t1, S.t2, S.t6, S.t7]) (by simp [ev_put_ne, ev_put_eq, ev_const, sz_put, S.size, S.t0, S.t1, S.t2, S.t6, S.t7]) (by rw [bin_sub, IntKind.wrap_i64]; congr 2; have := D.few; omega)) rfl) hO ?_
  simp only [List.getElem_toArray, List.getElem_cons_succ, List.getElem_cons_zero, ev_put_none]
  refine anyO_take (fun _ _ _ _ _ x r => x.rely r) (i := 9) (.pointer (some (ad.add (j * 5)))) rfl (by kernel_rfl) (by kernel_rfl) (by kernel_rfl) (QuietO.pu (Pu.index (inf := Try.t64) rfl Try.underlying30 Try.type64 (m := N2) (cp := cp) (by simp [ev_put_ne, ev_put_eq, ev_const, sz_put, S.size, S.t0, S.t1, S.t2, S.t6, S.t7]) (by simp [ev_put_ne, ev_put_eq, ev_const, sz_put, S.size, S.t0, S.t1, S.t2, S.t6, S.t7]) (by omega)) rfl) hO ?_
  simp only [List.getElem_toArray, List.getElem_cons_succ, List.getElem_cons_zero, ev_put_none]
  refine anyO_take (fun _ _ _ _ _ x r => x.rely r) (i := 10) (.agg #[.int .i64 f, .int .i64 b, p, .int .i64 l, q]) rfl (by kernel_rfl) (by kernel_rfl) (by kernel_rfl) (QuietO.load D.cn (A := ad.add (j * 5)) (vs := [.int .i64 f, .int .i64 b, p, .int .i64 l, q]) rfl rfl (by simp [ev_put_ne, ev_put_eq, ev_const, sz_put, S.size, S.t0, S.t1, S.t2, S.t6, S.t7]) (.agg Try.underlying64 rfl Try.type64 rfl (by simp)) hcell) hO ?_
  simp only [List.getElem_toArray, List.getElem_cons_succ, List.getElem_cons_zero, ev_put_none]
  clear hO
  refine anyO_all (rs := [1, 11]) (by kernel_rfl) (by simp) (fun i hi => ?_)
  simp only [List.mem_cons, List.not_mem_nil, or_false] at hi
  rcases hi with rfl | rfl
  ·
    refine OpO.still v2 rfl rfl (fun w5 o5 r => load_law D.cn (A := ⟨kn, 1, none⟩) rfl (by simp [ev_put_ne, ev_put_eq, ev_const, sz_put, S.size, S.t0, S.t1, S.t2, S.t6, S.t7]) (.one Try.underlying30 rfl) ((hF.1.rx (r.rx none) (by simp)).cks (vs := [v2]) rfl)) (fun w5 o5 r => ?_)
    replace hF := Frx hF (r.rx none)
    try replace hR := hR.rx (r.rx none) (by simp)
    clear r
    simp only [List.getElem_toArray, List.getElem_cons_succ, List.getElem_cons_zero, ev_put_none]
    refine anyO_all (rs := [11]) (by kernel_rfl) (by simp) (fun i hi => ?_)
    simp only [List.mem_cons, List.not_mem_nil, or_false] at hi
    subst hi
    refine OpO.call (vs := #[.agg #[.int .i64 f, .int .i64 b, p, .int .i64 l, q]]) rfl rfl rfl Try.func35 (by kernel_rfl) rfl (by simp [ev_put_ne, ev_put_eq, ev_const, sz_put, S.size, S.t0, S.t1, S.t2, S.t6, S.t7]) (copyRoute_o D.cn hF.2.2.2.2.1.size (hp.src hF.2.2.2.2.1) (hq.src hF.2.2.2.2.1) hA hB) (fun v w5 o5 h => ?_)
    obtain ⟨r, p', q', rfl, hp', fp, hq', fq⟩ := h
    obtain ⟨Mp, hMp, hpb, hTp⟩ := hp'.kn D.cn
    obtain ⟨Mq, hMq, hqb, hTq⟩ := hq'.kn D.cn
    replace hMo := (hMo.fresh hF.1.lt (fun g e => (World.ownsRow.lt hF.2.2.1.row g e).2) (fun g e => (World.ownsRow.lt hF.2.2.2.1.row g e).2) (fun p hp => fp _ (hpb p hp))).fresh hF.1.lt (fun g e => (World.ownsRow.lt hF.2.2.1.row g e).2) (fun g e => (World.ownsRow.lt hF.2.2.2.1.row g e).2) (fun p hp => fq _ (hqb p hp))
    obtain ⟨pa, pc, rfl⟩ := hp'.sl
    obtain ⟨qa, qc, rfl⟩ := hq'.sl
    replace hF := Fapp (Fapp (Frx hF r) hMp) hMq
    refine ⟨hF.2.2.2.2.1, ?_⟩
    clear r hp' hq' fp fq hMp hMq hpb hqb
    simp only [List.getElem_toArray, List.getElem_cons_succ, List.getElem_cons_zero, ev_put_none]
    refine anyO_all (rs := [12]) (by kernel_rfl) (by simp) (fun i hi => ?_)
    simp only [List.mem_cons, List.not_mem_nil, or_false] at hi
    subst hi
    refine OpO.eff rfl rfl (Eff.new D.cn hF.2.2.2.2.1.size (.cells #[.int .i64 f, .int .i64 b, .slice pa A.length pc, .int .i64 l, .slice qa B.length qc] 64) (fun g => .slice (some ⟨g, 0, none⟩) 1 1) (fun w => (build1_law (x := .tmp 36) (v := .agg #[.int .i64 f, .int .i64 b, .slice pa A.length pc, .int .i64 l, .slice qa B.length qc]) rfl (by simp [ev_put_ne, ev_put_eq, ev_const, sz_put, S.size, S.t0, S.t1, S.t2, S.t6, S.t7]) Try.underlying30 Try.type64 rfl rfl rfl (by decide) (by decide) w).1) (fun w => (build1_law (x := .tmp 36) (v := .agg #[.int .i64 f, .int .i64 b, .slice pa A.length pc, .int .i64 l, .slice qa B.length qc]) rfl (by simp [ev_put_ne, ev_put_eq, ev_const, sz_put, S.size, S.t0, S.t1, S.t2, S.t6, S.t7]) Try.underlying30 Try.type64 rfl rfl rfl (by decide) (by decide) w).2)) (fun v w5 o5 h => ?_)
    obtain ⟨gb, rfl, r, hg, hmb, hR⟩ := h
    replace hF := Frx hF r
    clear r
    simp only [List.getElem_toArray, List.getElem_cons_succ, List.getElem_cons_zero, ev_put_none]
    refine anyO_all (rs := [13]) (by kernel_rfl) (by simp) (fun i hi => ?_)
    simp only [List.mem_cons, List.not_mem_nil, or_false] at hi
    subst hi
    refine OpO.eff rfl rfl (Eff.append D.cn hF.2.2.2.2.1.size _ _ _ rfl 64 _ _ 5 Try.underlying30 Try.type64 rfl rfl rfl (by decide) (v := v2) (ad := ⟨gb, 0, none⟩) (m := 1) (cp := 1) (news := [.int .i64 f, .int .i64 b, .slice pa A.length pc, .int .i64 l, .slice qa B.length qc]) (by simp [ev_put_ne, ev_put_eq, ev_const, sz_put, S.size, S.t0, S.t1, S.t2, S.t6, S.t7]) hF.2.2.2.1 (by simp [ev_put_ne, ev_put_eq, ev_const, sz_put, S.size, S.t0, S.t1, S.t2, S.t6, S.t7]) rfl (hR.cks rfl) (by simp [Value.oneCell']) (by simp only [maxLen]; omega) (by show (n2 + 1) * 72 ≤ _; omega) (by decide)) (fun v2' w6 o6 h => ?_)
    obtain ⟨r6, h2', hfr⟩ := h
    obtain ⟨K, hm, h1, h2, hO, hKM⟩ := hF
    have hKM6 := hKM.rx r6 (fun p hp e => (hMo p hp).2.2 e.symm)
    have hMo6 := hMo.turn2 hKM hfr
    have hl2 := World.ownsRow.lt h2.row
    have hm6 := (r6.own kn K.lt).trans hm
    have K6 := K.rx r6 (fun e => own_neO h2 e.symm K.eq (by decide))
    have h16 := h1.rx D.cn r6 (fun g e e' => own_own h1 h2 e e'.symm (by decide))
    have hO6 := hO.rx r6 (fun g e => (hl2 g e).1)
    clear r6 hR hmb
    obtain ⟨ap, cpp, rfl⟩ := h2'.sl
    simp only [List.getElem_toArray, List.getElem_cons_succ, List.getElem_cons_zero, ev_put_none]
    refine anyO_take (fun _ _ _ _ _ x r => x.rely r) (i := 14) (.pointer (some ⟨kn, 1, none⟩)) rfl (by kernel_rfl) (by kernel_rfl) (by kernel_rfl) (QuietO.pu (pu_f1 rfl (by simp [ev_put_ne, ev_put_eq, ev_const, sz_put, S.size, S.t0, S.t1, S.t2, S.t6, S.t7])) rfl) hO6 ?_
    simp only [List.getElem_toArray, List.getElem_cons_succ, List.getElem_cons_zero, ev_put_none]
    refine anyO_all (rs := [15]) (by kernel_rfl) (by simp) (fun i hi => ?_)
    simp only [List.mem_cons, List.not_mem_nil, or_false] at hi
    subst hi
    refine OpO.eff rfl rfl (Eff.store (g := kn) (off := 1) (vs := [.slice ap (n2 + 1) cpp]) D.cn rfl (by simp [ev_put_ne, ev_put_eq, ev_const, sz_put, S.size, S.t0, S.t1, S.t2, S.t6, S.t7]) (by simp [ev_put_ne, ev_put_eq, ev_const, sz_put, S.size, Value.cells]) Try.type30 rfl (by simp [Value.oneCell']) K6 W.nk hm6 (by simp)) (fun v w7 o7 h => ?_)
    obtain ⟨rfl, r7, hm7, K7⟩ := h
    replace K7 : Kn nf c false w7 o7 kn (.cells #[v1, .slice ap (n2 + 1) cpp] 32) := K7
    have h27 := h2'.rx D.cn r7 (fun g e e' => own_neO h2' e (by cases e'; exact K6.eq) (by decide))
    have h17 := h16.rx D.cn r7 (fun g e e' => own_neO h16 e (by cases e'; exact K6.eq) (by decide))
    have hKM7 := hKM6.rx r7 (fun p hp e => (hMo p hp).1 (by injection e))
    have hO7 := hO6.rx r7 (fun g e => by cases e; exact W.nk)
    clear r7
    simp only [List.getElem_toArray, List.getElem_cons_succ, List.getElem_cons_zero, ev_put_none]
    refine anyO_done (by kernel_rfl) (Seg.done ⟨_, rfl, ⟨by simp [sz_put, S.size], by simpa [df_put] using S.defers, (by simp [ev_put_ne, ev_put_eq, ev_const, sz_put, S.size, S.t0, S.t1, S.t2, S.t6, S.t7]), (by simp [ev_put_ne, ev_put_eq, ev_const, sz_put, S.size, S.t0, S.t1, S.t2, S.t6, S.t7]), (by simp [ev_put_ne, ev_put_eq, ev_const, sz_put, S.size, S.t0, S.t1, S.t2, S.t6, S.t7]), (by simp [ev_put_ne, ev_put_eq, ev_const, sz_put, S.size, S.t0, S.t1, S.t2, S.t6, S.t7]), (by simp [ev_put_ne, ev_put_eq, ev_const, sz_put, S.size, S.t0, S.t1, S.t2, S.t6, S.t7])⟩, ⟨_, _, _, _, _, ⟨hO7, W.nk, hm7, K7, h17, h27, hKM7, hMo6⟩, hC3 _ _ hTp hTq⟩⟩) _
  ·
    refine OpO.call (vs := #[.agg #[.int .i64 f, .int .i64 b, p, .int .i64 l, q]]) rfl rfl rfl Try.func35 (by kernel_rfl) rfl (by simp [ev_put_ne, ev_put_eq, ev_const, sz_put, S.size, S.t0, S.t1, S.t2, S.t6, S.t7]) (copyRoute_o D.cn hF.2.2.2.2.1.size (hp.src hF.2.2.2.2.1) (hq.src hF.2.2.2.2.1) hA hB) (fun v w5 o5 h => ?_)
    obtain ⟨r, p', q', rfl, hp', fp, hq', fq⟩ := h
    obtain ⟨Mp, hMp, hpb, hTp⟩ := hp'.kn D.cn
    obtain ⟨Mq, hMq, hqb, hTq⟩ := hq'.kn D.cn
    replace hMo := (hMo.fresh hF.1.lt (fun g e => (World.ownsRow.lt hF.2.2.1.row g e).2) (fun g e => (World.ownsRow.lt hF.2.2.2.1.row g e).2) (fun p hp => fp _ (hpb p hp))).fresh hF.1.lt (fun g e => (World.ownsRow.lt hF.2.2.1.row g e).2) (fun g e => (World.ownsRow.lt hF.2.2.2.1.row g e).2) (fun p hp => fq _ (hqb p hp))
    obtain ⟨pa, pc, rfl⟩ := hp'.sl
    obtain ⟨qa, qc, rfl⟩ := hq'.sl
    replace hF := Fapp (Fapp (Frx hF r) hMp) hMq
    refine ⟨hF.2.2.2.2.1, ?_⟩
    clear r hp' hq' fp fq hMp hMq hpb hqb
    simp only [List.getElem_toArray, List.getElem_cons_succ, List.getElem_cons_zero, ev_put_none]
    refine anyO_all (rs := [1, 12]) (by kernel_rfl) (by simp) (fun i hi => ?_)
    simp only [List.mem_cons, List.not_mem_nil, or_false] at hi
    rcases hi with rfl | rfl
    ·
      refine OpO.still v2 rfl rfl (fun w5 o5 r => load_law D.cn (A := ⟨kn, 1, none⟩) rfl (by simp [ev_put_ne, ev_put_eq, ev_const, sz_put, S.size, S.t0, S.t1, S.t2, S.t6, S.t7]) (.one Try.underlying30 rfl) ((hF.1.rx (r.rx none) (by simp)).cks (vs := [v2]) rfl)) (fun w5 o5 r => ?_)
      replace hF := Frx hF (r.rx none)
      try replace hR := hR.rx (r.rx none) (by simp)
      clear r
      simp only [List.getElem_toArray, List.getElem_cons_succ, List.getElem_cons_zero, ev_put_none]
      refine anyO_all (rs := [12]) (by kernel_rfl) (by simp) (fun i hi => ?_)
      simp only [List.mem_cons, List.not_mem_nil, or_false] at hi
      subst hi
      refine OpO.eff rfl rfl (Eff.new D.cn hF.2.2.2.2.1.size (.cells #[.int .i64 f, .int .i64 b, .slice pa A.length pc, .int .i64 l, .slice qa B.length qc] 64) (fun g => .slice (some ⟨g, 0, none⟩) 1 1) (fun w => (build1_law (x := .tmp 36) (v := .agg #[.int .i64 f, .int .i64 b, .slice pa A.length pc, .int .i64 l, .slice qa B.length qc]) rfl (by simp [ev_put_ne, ev_put_eq, ev_const, sz_put, S.size, S.t0, S.t1, S.t2, S.t6, S.t7]) Try.underlying30 Try.type64 rfl rfl rfl (by decide) (by decide) w).1) (fun w => (build1_law (x := .tmp 36) (v := .agg #[.int .i64 f, .int .i64 b, .slice pa A.length pc, .int .i64 l, .slice qa B.length qc]) rfl (by simp [ev_put_ne, ev_put_eq, ev_const, sz_put, S.size, S.t0, S.t1, S.t2, S.t6, S.t7]) Try.underlying30 Try.type64 rfl rfl rfl (by decide) (by decide) w).2)) (fun v w5 o5 h => ?_)
      obtain ⟨gb, rfl, r, hg, hmb, hR⟩ := h
      replace hF := Frx hF r
      clear r
      simp only [List.getElem_toArray, List.getElem_cons_succ, List.getElem_cons_zero, ev_put_none]
      refine anyO_all (rs := [13]) (by kernel_rfl) (by simp) (fun i hi => ?_)
      simp only [List.mem_cons, List.not_mem_nil, or_false] at hi
      subst hi
      refine OpO.eff rfl rfl (Eff.append D.cn hF.2.2.2.2.1.size _ _ _ rfl 64 _ _ 5 Try.underlying30 Try.type64 rfl rfl rfl (by decide) (v := v2) (ad := ⟨gb, 0, none⟩) (m := 1) (cp := 1) (news := [.int .i64 f, .int .i64 b, .slice pa A.length pc, .int .i64 l, .slice qa B.length qc]) (by simp [ev_put_ne, ev_put_eq, ev_const, sz_put, S.size, S.t0, S.t1, S.t2, S.t6, S.t7]) hF.2.2.2.1 (by simp [ev_put_ne, ev_put_eq, ev_const, sz_put, S.size, S.t0, S.t1, S.t2, S.t6, S.t7]) rfl (hR.cks rfl) (by simp [Value.oneCell']) (by simp only [maxLen]; omega) (by show (n2 + 1) * 72 ≤ _; omega) (by decide)) (fun v2' w6 o6 h => ?_)
      obtain ⟨r6, h2', hfr⟩ := h
      obtain ⟨K, hm, h1, h2, hO, hKM⟩ := hF
      have hKM6 := hKM.rx r6 (fun p hp e => (hMo p hp).2.2 e.symm)
      have hMo6 := hMo.turn2 hKM hfr
      have hl2 := World.ownsRow.lt h2.row
      have hm6 := (r6.own kn K.lt).trans hm
      have K6 := K.rx r6 (fun e => own_neO h2 e.symm K.eq (by decide))
      have h16 := h1.rx D.cn r6 (fun g e e' => own_own h1 h2 e e'.symm (by decide))
      have hO6 := hO.rx r6 (fun g e => (hl2 g e).1)
      clear r6 hR hmb
      obtain ⟨ap, cpp, rfl⟩ := h2'.sl
      simp only [List.getElem_toArray, List.getElem_cons_succ, List.getElem_cons_zero, ev_put_none]
      refine anyO_take (fun _ _ _ _ _ x r => x.rely r) (i := 14) (.pointer (some ⟨kn, 1, none⟩)) rfl (by kernel_rfl) (by kernel_rfl) (by kernel_rfl) (QuietO.pu (pu_f1 rfl (by simp [ev_put_ne, ev_put_eq, ev_const, sz_put, S.size, S.t0, S.t1, S.t2, S.t6, S.t7])) rfl) hO6 ?_
      simp only [List.getElem_toArray, List.getElem_cons_succ, List.getElem_cons_zero, ev_put_none]
      refine anyO_all (rs := [15]) (by kernel_rfl) (by simp) (fun i hi => ?_)
      simp only [List.mem_cons, List.not_mem_nil, or_false] at hi
      subst hi
      refine OpO.eff rfl rfl (Eff.store (g := kn) (off := 1) (vs := [.slice ap (n2 + 1) cpp]) D.cn rfl (by simp [ev_put_ne, ev_put_eq, ev_const, sz_put, S.size, S.t0, S.t1, S.t2, S.t6, S.t7]) (by simp [ev_put_ne, ev_put_eq, ev_const, sz_put, S.size, Value.cells]) Try.type30 rfl (by simp [Value.oneCell']) K6 W.nk hm6 (by simp)) (fun v w7 o7 h => ?_)
      obtain ⟨rfl, r7, hm7, K7⟩ := h
      replace K7 : Kn nf c false w7 o7 kn (.cells #[v1, .slice ap (n2 + 1) cpp] 32) := K7
      have h27 := h2'.rx D.cn r7 (fun g e e' => own_neO h2' e (by cases e'; exact K6.eq) (by decide))
      have h17 := h16.rx D.cn r7 (fun g e e' => own_neO h16 e (by cases e'; exact K6.eq) (by decide))
      have hKM7 := hKM6.rx r7 (fun p hp e => (hMo p hp).1 (by injection e))
      have hO7 := hO6.rx r7 (fun g e => by cases e; exact W.nk)
      clear r7
      simp only [List.getElem_toArray, List.getElem_cons_succ, List.getElem_cons_zero, ev_put_none]
      refine anyO_done (by kernel_rfl) (Seg.done ⟨_, rfl, ⟨by simp [sz_put, S.size], by simpa [df_put] using S.defers, (by simp [ev_put_ne, ev_put_eq, ev_const, sz_put, S.size, S.t0, S.t1, S.t2, S.t6, S.t7]), (by simp [ev_put_ne, ev_put_eq, ev_const, sz_put, S.size, S.t0, S.t1, S.t2, S.t6, S.t7]), (by simp [ev_put_ne, ev_put_eq, ev_const, sz_put, S.size, S.t0, S.t1, S.t2, S.t6, S.t7]), (by simp [ev_put_ne, ev_put_eq, ev_const, sz_put, S.size, S.t0, S.t1, S.t2, S.t6, S.t7]), (by simp [ev_put_ne, ev_put_eq, ev_const, sz_put, S.size, S.t0, S.t1, S.t2, S.t6, S.t7])⟩, ⟨_, _, _, _, _, ⟨hO7, W.nk, hm7, K7, h17, h27, hKM7, hMo6⟩, hC3 _ _ hTp hTq⟩⟩) _
    ·
      refine OpO.eff rfl rfl (Eff.new D.cn hF.2.2.2.2.1.size (.cells #[.int .i64 f, .int .i64 b, .slice pa A.length pc, .int .i64 l, .slice qa B.length qc] 64) (fun g => .slice (some ⟨g, 0, none⟩) 1 1) (fun w => (build1_law (x := .tmp 36) (v := .agg #[.int .i64 f, .int .i64 b, .slice pa A.length pc, .int .i64 l, .slice qa B.length qc]) rfl (by simp [ev_put_ne, ev_put_eq, ev_const, sz_put, S.size, S.t0, S.t1, S.t2, S.t6, S.t7]) Try.underlying30 Try.type64 rfl rfl rfl (by decide) (by decide) w).1) (fun w => (build1_law (x := .tmp 36) (v := .agg #[.int .i64 f, .int .i64 b, .slice pa A.length pc, .int .i64 l, .slice qa B.length qc]) rfl (by simp [ev_put_ne, ev_put_eq, ev_const, sz_put, S.size, S.t0, S.t1, S.t2, S.t6, S.t7]) Try.underlying30 Try.type64 rfl rfl rfl (by decide) (by decide) w).2)) (fun v w5 o5 h => ?_)
      obtain ⟨gb, rfl, r, hg, hmb, hR⟩ := h
      replace hF := Frx hF r
      clear r
      simp only [List.getElem_toArray, List.getElem_cons_succ, List.getElem_cons_zero, ev_put_none]
      refine anyO_all (rs := [1]) (by kernel_rfl) (by simp) (fun i hi => ?_)
      simp only [List.mem_cons, List.not_mem_nil, or_false] at hi
      subst hi
      refine OpO.still v2 rfl rfl (fun w5 o5 r => load_law D.cn (A := ⟨kn, 1, none⟩) rfl (by simp [ev_put_ne, ev_put_eq, ev_const, sz_put, S.size, S.t0, S.t1, S.t2, S.t6, S.t7]) (.one Try.underlying30 rfl) ((hF.1.rx (r.rx none) (by simp)).cks (vs := [v2]) rfl)) (fun w5 o5 r => ?_)
      replace hF := Frx hF (r.rx none)
      try replace hR := hR.rx (r.rx none) (by simp)
      clear r
      simp only [List.getElem_toArray, List.getElem_cons_succ, List.getElem_cons_zero, ev_put_none]
      refine anyO_all (rs := [13]) (by kernel_rfl) (by simp) (fun i hi => ?_)
      simp only [List.mem_cons, List.not_mem_nil, or_false] at hi
      subst hi
      refine OpO.eff rfl rfl (Eff.append D.cn hF.2.2.2.2.1.size _ _ _ rfl 64 _ _ 5 Try.underlying30 Try.type64 rfl rfl rfl (by decide) (v := v2) (ad := ⟨gb, 0, none⟩) (m := 1) (cp := 1) (news := [.int .i64 f, .int .i64 b, .slice pa A.length pc, .int .i64 l, .slice qa B.length qc]) (by simp [ev_put_ne, ev_put_eq, ev_const, sz_put, S.size, S.t0, S.t1, S.t2, S.t6, S.t7]) hF.2.2.2.1 (by simp [ev_put_ne, ev_put_eq, ev_const, sz_put, S.size, S.t0, S.t1, S.t2, S.t6, S.t7]) rfl (hR.cks rfl) (by simp [Value.oneCell']) (by simp only [maxLen]; omega) (by show (n2 + 1) * 72 ≤ _; omega) (by decide)) (fun v2' w6 o6 h => ?_)
      obtain ⟨r6, h2', hfr⟩ := h
      obtain ⟨K, hm, h1, h2, hO, hKM⟩ := hF
      have hKM6 := hKM.rx r6 (fun p hp e => (hMo p hp).2.2 e.symm)
      have hMo6 := hMo.turn2 hKM hfr
      have hl2 := World.ownsRow.lt h2.row
      have hm6 := (r6.own kn K.lt).trans hm
      have K6 := K.rx r6 (fun e => own_neO h2 e.symm K.eq (by decide))
      have h16 := h1.rx D.cn r6 (fun g e e' => own_own h1 h2 e e'.symm (by decide))
      have hO6 := hO.rx r6 (fun g e => (hl2 g e).1)
      clear r6 hR hmb
      obtain ⟨ap, cpp, rfl⟩ := h2'.sl
      simp only [List.getElem_toArray, List.getElem_cons_succ, List.getElem_cons_zero, ev_put_none]
      refine anyO_take (fun _ _ _ _ _ x r => x.rely r) (i := 14) (.pointer (some ⟨kn, 1, none⟩)) rfl (by kernel_rfl) (by kernel_rfl) (by kernel_rfl) (QuietO.pu (pu_f1 rfl (by simp [ev_put_ne, ev_put_eq, ev_const, sz_put, S.size, S.t0, S.t1, S.t2, S.t6, S.t7])) rfl) hO6 ?_
      simp only [List.getElem_toArray, List.getElem_cons_succ, List.getElem_cons_zero, ev_put_none]
      refine anyO_all (rs := [15]) (by kernel_rfl) (by simp) (fun i hi => ?_)
      simp only [List.mem_cons, List.not_mem_nil, or_false] at hi
      subst hi
      refine OpO.eff rfl rfl (Eff.store (g := kn) (off := 1) (vs := [.slice ap (n2 + 1) cpp]) D.cn rfl (by simp [ev_put_ne, ev_put_eq, ev_const, sz_put, S.size, S.t0, S.t1, S.t2, S.t6, S.t7]) (by simp [ev_put_ne, ev_put_eq, ev_const, sz_put, S.size, Value.cells]) Try.type30 rfl (by simp [Value.oneCell']) K6 W.nk hm6 (by simp)) (fun v w7 o7 h => ?_)
      obtain ⟨rfl, r7, hm7, K7⟩ := h
      replace K7 : Kn nf c false w7 o7 kn (.cells #[v1, .slice ap (n2 + 1) cpp] 32) := K7
      have h27 := h2'.rx D.cn r7 (fun g e e' => own_neO h2' e (by cases e'; exact K6.eq) (by decide))
      have h17 := h16.rx D.cn r7 (fun g e e' => own_neO h16 e (by cases e'; exact K6.eq) (by decide))
      have hKM7 := hKM6.rx r7 (fun p hp e => (hMo p hp).1 (by injection e))
      have hO7 := hO6.rx r7 (fun g e => by cases e; exact W.nk)
      clear r7
      simp only [List.getElem_toArray, List.getElem_cons_succ, List.getElem_cons_zero, ev_put_none]
      refine anyO_done (by kernel_rfl) (Seg.done ⟨_, rfl, ⟨by simp [sz_put, S.size], by simpa [df_put] using S.defers, (by simp [ev_put_ne, ev_put_eq, ev_const, sz_put, S.size, S.t0, S.t1, S.t2, S.t6, S.t7]), (by simp [ev_put_ne, ev_put_eq, ev_const, sz_put, S.size, S.t0, S.t1, S.t2, S.t6, S.t7]), (by simp [ev_put_ne, ev_put_eq, ev_const, sz_put, S.size, S.t0, S.t1, S.t2, S.t6, S.t7]), (by simp [ev_put_ne, ev_put_eq, ev_const, sz_put, S.size, S.t0, S.t1, S.t2, S.t6, S.t7]), (by simp [ev_put_ne, ev_put_eq, ev_const, sz_put, S.size, S.t0, S.t1, S.t2, S.t6, S.t7])⟩, ⟨_, _, _, _, _, ⟨hO7, W.nk, hm7, K7, h17, h27, hKM7, hMo6⟩, hC3 _ _ hTp hTq⟩⟩) _
end Go.Proofs.Ytjkfnjjkjhggfaa
set_option linter.unusedSimpArgs false
set_option linter.unusedVariables false
namespace Go.Proofs.Ytjkfnjjkjhggfaa
open Go.Conc Go.RowKit

section
variable {P : Program} {nf c : Nat} {n : Nat} {w : World} {o : Who} {b : Frame} {a : Act} {k : List Item} {cs : List Frame} {ops : Array Oper} {i : Nat} {rest : List Nat} {op : Oper}
/-- AT A SEND. -/
theorem atSendO_of {x y : Operand} {v : Value} {Vok : Value → Prop} {Next : Value → Goroutine → World → Who → Prop} (ho : ops[i]? = some op) (hw : Region.wanted op (yielded ops a.tmps) = true) (hk : b.kind ≠ .early) (hop : op.op = .send x y)
    (hx : a.eval x = .chan (some c)) (hy : a.eval y = v) (hv : Vok v) (next : ∀ w1 o1, RO nf c false w o w1 o1 → Next v (G (b.at (a.put op.dst undef) (.inRegion ops rest :: k)) cs) w1 o1) :
    AtSendO P nf c Vok Next (G (b.at a (.inRegion ops (i :: rest) :: k)) cs) w o := by
  refine ⟨rfl, G (b.at a (.inRegion ops (i :: rest) :: k)) cs, v, .tuple #[], #[], ?_, by simp, hv, fun w1 o1 r => ?_⟩
  · rw [stepG_comm (cases := #[scase c v (.tuple #[])]) (blocking := true) (shape := .send) (w' := w) ho hw hk (by simp [execOp, hop, hx, hy, scase])]
    have he : (execOp a.eval op).events P w #[] = #[] := by
      unfold execOp
      simp only [hop]
      rfl
    unfold listed
    rw [he]
    simp [seen]
  · have e : Conc.served (G (b.at a (.inRegion ops (i :: rest) :: k)) cs) undef = G (b.at (a.put op.dst undef) (.inRegion ops rest :: k)) cs := by
      rw [served_G]
      simp [ho]
    rw [e]; exact next w1 o1 r
theorem stepG_deferB {main : Bool} {bi : Builtin} {xs : Array Operand} {ats : Array TypeId} (ho : ops[i]? = some op) (hw : Region.wanted op (yielded ops a.tmps) = true) (hk : b.kind ≠ .early) (hop : op.op = .defer { callee := .builtin bi, args := xs, argTypes := ats }) :
    ∃ cs', ∀ w, stepG P main (G (b.at a (.inRegion ops (i :: rest) :: k)) cs) w = .go (G (b.at (Act.put ⟨a.tmps, { target := .builtin bi ats op.type cs', args := xs.map a.eval } :: a.defers⟩ op.dst undef) (.inRegion ops rest :: k)) cs) w #[] := by
  have hr : ∃ cs' : Array Bool, ∀ w, (execOp a.eval op).run P w = .ok (.defer { target := .builtin bi ats op.type cs', args := xs.map a.eval }) w := ⟨_, fun w => by unfold execOp; simp only [hop, resolve]; rfl⟩
  obtain ⟨cs', hr⟩ := hr
  refine ⟨cs', fun w => ?_⟩
  have he : (execOp a.eval op).events P w #[] = #[] := by
    unfold execOp
    simp [hop, resolve]
  have hfin : ∀ ds, (b.at ⟨a.tmps, ds⟩ (.inRegion ops (i :: rest) :: k)).finish undef = b.at (Act.put ⟨a.tmps, ds⟩ op.dst undef) (.inRegion ops rest :: k) := fun ds => by rw [Frame.finish_at, ho]; rfl
  have hk' : (b.kind == CallKind.early) = false := by simpa using hk
  rw [stepG_oper ho hw, ← hfin]
  simp [stepG.apply, hr w, he, G, Frame.at, hk', GStep.after, seen_none]
end
section
variable {nf c bm bd kn N k n1 n2 N1 N2 : Nat} {w0 w : World} {o : Who} {s1 s2 : Value} {Ds : List (Int × Int)} {Ls : List (Int × Int × Int × List Int × List Int)} {C C' : Ctn}
/-- At the loop's head. -/
noncomputable abbrev headW (a : Act) : Goroutine := G ((baseD 34).at a [.code loopW, .inLoop loopW, .inBlock 0, .code tailW]) [botW]
/-- Behind the round's append. -/
noncomputable abbrev midW (a : Act) : Goroutine := G ((baseD 34).at a [.code restW, .inBlock 1, .code incW, .inLoop loopW, .inBlock 0, .code tailW]) [botW]
theorem NowV.rx {v1 v2 : Value} {xs1 xs2 : List Value} {M : List (Nat × Obj)} (hcn : c < nf) (W : NowV nf c w0 w o kn n1 n2 v1 v2 xs1 xs2 M) {w1 : World} {o1 : Who} (r : RX nf c false none w o w1 o1) : NowV nf c w0 w1 o1 kn n1 n2 v1 v2 xs1 xs2 M :=
  ⟨W.old.rx r (by simp), W.nk, (r.own _ W.K.lt).trans W.mine, W.K.rx r (by simp), W.h1.rx hcn r (by simp), W.h2.rx hcn r (by simp), W.kM.rx r (by simp), W.nM⟩
theorem nowW_rx (hcn : c < nf) (W : NowW nf c w0 w o kn n1 n2 C) {w1 : World} {o1 : Who} (r : RX nf c false none w o w1 o1) : NowW nf c w0 w1 o1 kn n1 n2 C := by
  obtain ⟨v1, v2, xs1, xs2, M, W, hC⟩ := W
  exact ⟨_, _, _, _, _, W.rx hcn r, hC⟩
set_option maxRecDepth 100000 in
theorem rest_no (D : DataO nf c w0 bm bd s1 s2 N1 N2 Ds Ls) {a : Act} (S : SlotsW a c bm bd kn N k) (W : NowW nf c w0 w o kn n1 n2 C) (hN : N = N1 + N2) (hk : k < N) (hne : n1 + n2 ≠ 3) (hs : n1 + n2 ≤ 3) :
    Seg Try.prog nf c false (fun g' w' o' => ∃ a', g' = headW a' ∧ SlotsW a' c bm bd kn N (k + 1) ∧ NowW nf c w0 w' o' kn n1 n2 C) 400 (midW a) w o := by
  simp only [midW, headW]
  obtain ⟨R_, hR_⟩ : ∃ R, restW = R := ⟨_, rfl⟩
  rw [hR_]
  simp only [restW, loopW, bodyW, Try.f34, Option.getD_some] at hR_
  subst hR_
  obtain ⟨R_, hR_⟩ : ∃ R, incW = R := ⟨_, rfl⟩
  rw [hR_]
  simp only [incW, loopW, bodyW, Try.f34, Option.getD_some] at hR_
  subst hR_
  obtain ⟨v1, v2, xs1, xs2, M, W, hC⟩ := W
  obtain ⟨a1, c1, rfl⟩ := W.h1.sl
  obtain ⟨a2, c2, rfl⟩ := W.h2.sl
  have K := W.K
  first
  | refine Seg.ctl rfl (fun _ => stepG_seq) ?_
  | refine Seg.ctl rfl (fun _ => stepG_region_end) ?_
  | (refine Seg.ctl rfl (fun _ => stepG_region) ?_; simp only [List.size_toArray, List.length_cons, List.length_nil, Nat.reduceAdd, Nat.zero_add, List.range, List.range.loop])
  | refine Seg.ctl rfl (fun _ => stepG_block) ?_
  | refine Seg.ctl rfl (fun _ => stepG_inBlock) ?_
  | refine Seg.ctl rfl (fun _ => stepG_ret') ?_
  | refine Seg.ctl rfl (fun _ => stepG_loop) ?_
  | refine Seg.ctl rfl (fun _ => stepG_inLoop) ?_
  | refine Seg.ctl rfl (fun _ => stepG_skip) ?_
  first
  | refine Seg.ctl rfl (fun _ => stepG_seq) ?_
  | refine Seg.ctl rfl (fun _ => stepG_region_end) ?_
  | (refine Seg.ctl rfl (fun _ => stepG_region) ?_; simp only [List.size_toArray, List.length_cons, List.length_nil, Nat.reduceAdd, Nat.zero_add, List.range, List.range.loop])
  | refine Seg.ctl rfl (fun _ => stepG_block) ?_
  | refine Seg.ctl rfl (fun _ => stepG_inBlock) ?_
  | refine Seg.ctl rfl (fun _ => stepG_ret') ?_
  | refine Seg.ctl rfl (fun _ => stepG_loop) ?_
  | refine Seg.ctl rfl (fun _ => stepG_inLoop) ?_
  | refine Seg.ctl rfl (fun _ => stepG_skip) ?_
  refine Seg.load D.cn (A := ⟨kn, 0, none⟩) (vs := [.slice a1 n1 c1, .slice a2 n2 c2]) rfl rfl (by decide) rfl (by simp [ev_put_ne, ev_put_eq, ev_const, sz_put, S.size, S.t0, S.t1, S.t2, S.t6, S.t7]) (.agg Try.underlying32 rfl Try.type32 rfl (by simp)) (K.cks rfl) ?_
  simp only [List.getElem_toArray, List.getElem_cons_succ, List.getElem_cons_zero, ev_put_none]
  refine Seg.le (Seg.callO (n := 300) (vs := #[.agg #[.slice a1 n1 c1, .slice a2 n2 c2]]) rfl rfl (by decide) rfl Try.func14 (by kernel_rfl) rfl (by simp [ev_put_ne, ev_put_eq, ev_const, sz_put, S.size, S.t0, S.t1, S.t2, S.t6, S.t7]) (deltaMany_o D.cn W.old.size a1 a2 n1 c1 n2 c2 (by omega)) fun v w1 o1 h => ?_) (by omega)
  obtain ⟨rfl, r⟩ := h
  have W := W.rx D.cn r
  clear r K
  simp only [List.getElem_toArray, List.getElem_cons_succ, List.getElem_cons_zero, ev_put_none]
  refine Seg.pu (Pu.bin (v := .bool false) (m := (n1 : Int) + n2) (l := 3) rfl (by simp [ev_put_ne, ev_put_eq, ev_const, sz_put, S.size, S.t0, S.t1, S.t2, S.t6, S.t7]) (by simp [ev_put_ne, ev_put_eq, ev_const, sz_put, S.size, S.t0, S.t1, S.t2, S.t6, S.t7]) (by rw [bin_eql]; congr 2; exact beq_eq_false_iff_ne.2 (by omega))) rfl rfl (by decide) ?_
  simp only [List.getElem_toArray, List.getElem_cons_succ, List.getElem_cons_zero, ev_put_none]
  first
  | refine Seg.ctl rfl (fun _ => stepG_seq) ?_
  | refine Seg.ctl rfl (fun _ => stepG_region_end) ?_
  | (refine Seg.ctl rfl (fun _ => stepG_region) ?_; simp only [List.size_toArray, List.length_cons, List.length_nil, Nat.reduceAdd, Nat.zero_add, List.range, List.range.loop])
  | refine Seg.ctl rfl (fun _ => stepG_block) ?_
  | refine Seg.ctl rfl (fun _ => stepG_inBlock) ?_
  | refine Seg.ctl rfl (fun _ => stepG_ret') ?_
  | refine Seg.ctl rfl (fun _ => stepG_loop) ?_
  | refine Seg.ctl rfl (fun _ => stepG_inLoop) ?_
  | refine Seg.ctl rfl (fun _ => stepG_skip) ?_
  refine Seg.ctl rfl (fun _ => stepG_cond (t := false) (by simp [ev_put_ne, ev_put_eq, ev_const, sz_put, S.size, S.t0, S.t1, S.t2, S.t6, S.t7])) ?_
  simp only [if_false, Bool.false_eq_true]
  first
  | refine Seg.ctl rfl (fun _ => stepG_seq) ?_
  | refine Seg.ctl rfl (fun _ => stepG_region_end) ?_
  | (refine Seg.ctl rfl (fun _ => stepG_region) ?_; simp only [List.size_toArray, List.length_cons, List.length_nil, Nat.reduceAdd, Nat.zero_add, List.range, List.range.loop])
  | refine Seg.ctl rfl (fun _ => stepG_block) ?_
  | refine Seg.ctl rfl (fun _ => stepG_inBlock) ?_
  | refine Seg.ctl rfl (fun _ => stepG_ret') ?_
  | refine Seg.ctl rfl (fun _ => stepG_loop) ?_
  | refine Seg.ctl rfl (fun _ => stepG_inLoop) ?_
  | refine Seg.ctl rfl (fun _ => stepG_skip) ?_
  first
  | refine Seg.ctl rfl (fun _ => stepG_seq) ?_
  | refine Seg.ctl rfl (fun _ => stepG_region_end) ?_
  | (refine Seg.ctl rfl (fun _ => stepG_region) ?_; simp only [List.size_toArray, List.length_cons, List.length_nil, Nat.reduceAdd, Nat.zero_add, List.range, List.range.loop])
  | refine Seg.ctl rfl (fun _ => stepG_block) ?_
  | refine Seg.ctl rfl (fun _ => stepG_inBlock) ?_
  | refine Seg.ctl rfl (fun _ => stepG_ret') ?_
  | refine Seg.ctl rfl (fun _ => stepG_loop) ?_
  | refine Seg.ctl rfl (fun _ => stepG_inLoop) ?_
  | refine Seg.ctl rfl (fun _ => stepG_skip) ?_
  first
  | refine Seg.ctl rfl (fun _ => stepG_seq) ?_
  | refine Seg.ctl rfl (fun _ => stepG_region_end) ?_
  | (refine Seg.ctl rfl (fun _ => stepG_region) ?_; simp only [List.size_toArray, List.length_cons, List.length_nil, Nat.reduceAdd, Nat.zero_add, List.range, List.range.loop])
  | refine Seg.ctl rfl (fun _ => stepG_block) ?_
  | refine Seg.ctl rfl (fun _ => stepG_inBlock) ?_
  | refine Seg.ctl rfl (fun _ => stepG_ret') ?_
  | refine Seg.ctl rfl (fun _ => stepG_loop) ?_
  | refine Seg.ctl rfl (fun _ => stepG_inLoop) ?_
  | refine Seg.ctl rfl (fun _ => stepG_skip) ?_
  have hcast : IntKind.i64.wrap ((k : Int) + 1) = ((k + 1 : Nat) : Int) := by rw [IntKind.wrap_i64]; have := D.few; omega
  refine Seg.pu (Pu.bin (v := .int .i64 (k + 1 : Nat)) (m := k) (l := 1) rfl (by simp [ev_put_ne, ev_put_eq, ev_const, sz_put, S.size, S.t0, S.t1, S.t2, S.t6, S.t7]) (by simp [ev_put_ne, ev_put_eq, ev_const, sz_put, S.size, S.t0, S.t1, S.t2, S.t6, S.t7]) (by rw [bin_add, hcast])) rfl rfl (by decide) ?_
  simp only [List.getElem_toArray, List.getElem_cons_succ, List.getElem_cons_zero, ev_put_none]
  refine Seg.pu (Pu.move (v := .int .i64 (k + 1 : Nat)) rfl (by simp [ev_put_ne, ev_put_eq, ev_const, sz_put, S.size, S.t0, S.t1, S.t2, S.t6, S.t7])) rfl rfl (by decide) ?_
  simp only [List.getElem_toArray, List.getElem_cons_succ, List.getElem_cons_zero, ev_put_none]
  first
  | refine Seg.ctl rfl (fun _ => stepG_seq) ?_
  | refine Seg.ctl rfl (fun _ => stepG_region_end) ?_
  | (refine Seg.ctl rfl (fun _ => stepG_region) ?_; simp only [List.size_toArray, List.length_cons, List.length_nil, Nat.reduceAdd, Nat.zero_add, List.range, List.range.loop])
  | refine Seg.ctl rfl (fun _ => stepG_block) ?_
  | refine Seg.ctl rfl (fun _ => stepG_inBlock) ?_
  | refine Seg.ctl rfl (fun _ => stepG_ret') ?_
  | refine Seg.ctl rfl (fun _ => stepG_loop) ?_
  | refine Seg.ctl rfl (fun _ => stepG_inLoop) ?_
  | refine Seg.ctl rfl (fun _ => stepG_skip) ?_
  first
  | refine Seg.ctl rfl (fun _ => stepG_seq) ?_
  | refine Seg.ctl rfl (fun _ => stepG_region_end) ?_
  | (refine Seg.ctl rfl (fun _ => stepG_region) ?_; simp only [List.size_toArray, List.length_cons, List.length_nil, Nat.reduceAdd, Nat.zero_add, List.range, List.range.loop])
  | refine Seg.ctl rfl (fun _ => stepG_block) ?_
  | refine Seg.ctl rfl (fun _ => stepG_inBlock) ?_
  | refine Seg.ctl rfl (fun _ => stepG_ret') ?_
  | refine Seg.ctl rfl (fun _ => stepG_loop) ?_
  | refine Seg.ctl rfl (fun _ => stepG_inLoop) ?_
  | refine Seg.ctl rfl (fun _ => stepG_skip) ?_
  exact Seg.done ⟨_, rfl, ⟨by simp [sz_put, S.size], by simpa [df_put] using S.defers, (by simp [ev_put_ne, ev_put_eq, ev_const, sz_put, S.size, S.t0, S.t1, S.t2, S.t6, S.t7]), (by simp [ev_put_ne, ev_put_eq, ev_const, sz_put, S.size, S.t0, S.t1, S.t2, S.t6, S.t7]), (by simp [ev_put_ne, ev_put_eq, ev_const, sz_put, S.size, S.t0, S.t1, S.t2, S.t6, S.t7]), (by simp [ev_put_ne, ev_put_eq, ev_const, sz_put, S.size, S.t0, S.t1, S.t2, S.t6, S.t7]), (by simp [ev_put_ne, ev_put_eq, ev_const, sz_put, S.size, S.t0, S.t1, S.t2, S.t6, S.t7])⟩, _, _, _, _, _, W, hC⟩
end
end Go.Proofs.Ytjkfnjjkjhggfaa
