/- The law on letters, alone up to the go statement. -/
import Derived.Test.YtjkfnjjkjhggfaaZ38
set_option linter.unusedSimpArgs false
set_option linter.unusedVariables false
namespace Go.Proofs.Ytjkfnjjkjhggfaa
open Go.Conc Go.RowKit

set_option maxRecDepth 100000 in
set_option maxHeartbeats 4000000 in
theorem FnDeltaCut_run (a0 : Option Addr) (n0 c0 : Nat) (w : World) (hG : Given w (.slice a0 n0 c0)) :
    ∃ M last o w' t', runNT Try.prog (M + 1) (solo (G (Frame.enter Try.prog 5 #[.slice a0 n0 c0] .normal) []) w) #[] = (.ended o w', t') ∧ runN Try.prog M (solo (G (Frame.enter Try.prog 5 #[.slice a0 n0 c0] .normal) []) w) = .next last ∧ step Try.prog last = .ended o w' ∧ Go.Conc.Good Try.prog (PostL w) last o w' t' := by
  refine soloOrFork ?_
  rw [enter_at _ Try.func5 (show Try.f5.body = some bodyC from rfl)]
  generalize ha : Act.mk _ [] = a
  have hs : a.tmps.size = 97 := by rw [← ha]; simp [Try.ntmps5]
  have hd : a.defers = [] := by rw [← ha]
  have h00 : a.eval (.tmp 0) = .slice a0 n0 c0 := by rw [← ha]; simp [Act.eval]
  clear ha
  have e : bodyC = bodyC := rfl
  conv at e => rhs; simp only [bodyC, Try.f5, Option.getD_some]
  rw [e]
  clear e
  refine Lo.ctl rfl (fun _ => stepG_seq) ?_
  refine Lo.ctl rfl (fun _ => stepG_region) ?_
  simp only [List.size_toArray, List.length_cons, List.length_nil, Nat.reduceAdd, Nat.zero_add, List.range, List.range.loop]
  refine Lo.pu (Pu.assign (v := .bool false) rfl rfl) rfl rfl (by decide) ?_
  simp only [List.getElem_toArray, List.getElem_cons_succ, List.getElem_cons_zero, ev_put_none]
  refine Lo.ctl rfl (fun _ => stepG_region_end) ?_
  refine Lo.ctl rfl (fun _ => stepG_seq) ?_
  refine Lo.ctl rfl (fun _ => stepG_seq) ?_
  refine Lo.ctl rfl (fun _ => stepG_region) ?_
  simp only [List.size_toArray, List.length_cons, List.length_nil, Nat.reduceAdd, Nat.zero_add, List.range, List.range.loop]
  refine Lo.pu (Pu.move (v := .slice a0 n0 c0) rfl (by simp [ev_put_ne, ev_put_eq, ev_const, ev_put_none, sz_put, hs, h00])) rfl rfl (by decide) ?_
  simp only [List.getElem_toArray, List.getElem_cons_succ, List.getElem_cons_zero, ev_put_none]
  refine Lo.pu (Pu.len (ao := a0) (m := n0) (cp := c0) rfl Try.underlying28 (by simp [ev_put_ne, ev_put_eq, ev_const, ev_put_none, sz_put, hs, h00])) rfl rfl (by decide) ?_
  simp only [List.getElem_toArray, List.getElem_cons_succ, List.getElem_cons_zero, ev_put_none]
  by_cases hbig : (n0 : Int) > 1048576
  ·
    refine Lo.pu (Pu.bin (m := n0) (l := 1048576) (v := .bool true) rfl (by simp [ev_put_ne, ev_put_eq, ev_const, ev_put_none, sz_put, hs, h00]) (by simp [ev_put_ne, ev_put_eq, ev_const, ev_put_none, sz_put, hs, h00]) (by rw [bin_gtr, decide_eq_true hbig])) rfl rfl (by decide) ?_
    simp only [List.getElem_toArray, List.getElem_cons_succ, List.getElem_cons_zero, ev_put_none]
    refine Lo.ctl rfl (fun _ => stepG_region_end) ?_
    refine Lo.ctl rfl (fun _ => stepG_cond (t := true) (by simp [ev_put_ne, ev_put_eq, ev_const, ev_put_none, sz_put, hs, h00])) ?_
    simp only [if_true]
    refine Lo.ctl rfl (fun _ => stepG_seq) ?_
    refine Lo.ctl rfl (fun _ => stepG_region) ?_
    simp only [List.size_toArray, List.length_cons, List.length_nil, Nat.reduceAdd, Nat.zero_add, List.range, List.range.loop]
    refine Lo.pu (Pu.assign (v := .bool true) rfl rfl) rfl rfl (by decide) ?_
    simp only [List.getElem_toArray, List.getElem_cons_succ, List.getElem_cons_zero, ev_put_none]
    refine Lo.ctl rfl (fun _ => stepG_region_end) ?_
    refine Lo.ctl rfl (fun _ => stepG_ret') ?_
    exact Lo.stop (.inr (atRet_of (by simp [df_put, hd]) Try.func5 rfl (by kernel_rfl) ⟨evt2 _ (by simp [sz_put, hs]), Below.refl _ _⟩))
  ·
    refine Lo.pu (Pu.bin (m := n0) (l := 1048576) (v := .bool false) rfl (by simp [ev_put_ne, ev_put_eq, ev_const, ev_put_none, sz_put, hs, h00]) (by simp [ev_put_ne, ev_put_eq, ev_const, ev_put_none, sz_put, hs, h00]) (by rw [bin_gtr, decide_eq_false hbig])) rfl rfl (by decide) ?_
    simp only [List.getElem_toArray, List.getElem_cons_succ, List.getElem_cons_zero, ev_put_none]
    refine Lo.ctl rfl (fun _ => stepG_region_end) ?_
    refine Lo.ctl rfl (fun _ => stepG_cond (t := false) (by simp [ev_put_ne, ev_put_eq, ev_const, ev_put_none, sz_put, hs, h00])) ?_
    simp only [if_false, Bool.false_eq_true]
    refine Lo.ctl rfl (fun _ => stepG_skip) ?_
    refine Lo.ctl rfl (fun _ => stepG_seq) ?_
    refine Lo.ctl rfl (fun _ => stepG_region) ?_
    simp only [List.size_toArray, List.length_cons, List.length_nil, Nat.reduceAdd, Nat.zero_add, List.range, List.range.loop]
    refine Lo.pu (Pu.move (v := .slice a0 n0 c0) rfl (by simp [ev_put_ne, ev_put_eq, ev_const, ev_put_none, sz_put, hs, h00])) rfl rfl (by decide) ?_
    simp only [List.getElem_toArray, List.getElem_cons_succ, List.getElem_cons_zero, ev_put_none]
    refine Lo.call plainProg (f := 17) (vs := #[.slice a0 n0 c0]) rfl rfl (by decide) rfl Try.func17 (by kernel_rfl) (by kernel_rfl) (by kernel_rfl) (by simp [ev_put_ne, ev_put_eq, ev_const, ev_put_none, sz_put, hs, h00]) (drawDeltaCut_any _ _ hG) (fun e w' h => by obtain ⟨s1, s2, D, L, rfl, -⟩ := h; exact ⟨_, rfl⟩) ?_
    rintro v w1 ⟨s1, s2, D, L, hv, hD, hT, hl, hsm, k1⟩
    injection hv with hv
    subst hv
    simp only [List.getElem_toArray, List.getElem_cons_succ, List.getElem_cons_zero, ev_put_none]
    have DP1 := fun w' (k : Below w1.heap.size w1 w') => And.intro (dataPre_of (hD.below k) (hT.below k).gls hl hsm) (And.intro ((hD.below k).rows (fun _ => rfl)) (hT.below k).gls)
    clear hD hT
    obtain ⟨a1, c1, rfl⟩ := (DP1 w1 (Below.refl _ _)).1.sh1
    obtain ⟨a2, c2, rfl⟩ := (DP1 w1 (Below.refl _ _)).1.sh2
    refine Lo.new rfl rfl (by decide) (.cells #[.slice none 0 0, .slice none 0 0] 32) (fun g => .pointer (some ⟨g, 0, none⟩)) (fun w => (alloc_law rfl zero_run zero_events w).1) (fun w => (alloc_law rfl zero_run zero_events w).2) ?_
    simp only [List.getElem_toArray, List.getElem_cons_succ, List.getElem_cons_zero, ev_put_none]
    obtain ⟨w2, hw2⟩ : ∃ w2, w2 = w1.alloc (.cells #[.slice none 0 0, .slice none 0 0] 32) := ⟨_, rfl⟩
    rw [← hw2]
    have z2 : w2.heap.size = w1.heap.size + 1 := by rw [hw2]; simp
    have b2 : w2.heap[w1.heap.size]? = some (.cells #[.slice none 0 0, .slice none 0 0] 32) := by rw [hw2]; exact heapA_new ..
    have k2 : Below w1.heap.size w1 w2 := by rw [hw2]; exact (Below.refl _ _).alloc (Nat.le_refl _) _
    clear hw2
    refine Lo.store (g := w1.heap.size) (off := 0) (vs := [.slice a1 D.length c1, .slice a2 L.length c2]) rfl rfl (by decide) rfl (by simp [ev_put_ne, ev_put_eq, ev_const, ev_put_none, sz_put, hs, h00]) (by simp [ev_put_ne, ev_put_eq, ev_const, sz_put, hs, Value.cells]) Try.type32 rfl (by simp [Value.oneCell']) b2 (by simp) ?_
    simp only [List.getElem_toArray, List.getElem_cons_succ, List.getElem_cons_zero, ev_put_none]
    obtain ⟨w3, hw3⟩ : ∃ w3, w3 = w2.setRow w1.heap.size #[.slice a1 D.length c1, .slice a2 L.length c2] := ⟨_, rfl⟩
    have e4 : w2.setRow w1.heap.size (#[Value.slice none 0 0, Value.slice none 0 0].toList.take 0 ++ [Value.slice a1 D.length c1, Value.slice a2 L.length c2] ++ #[Value.slice none 0 0, Value.slice none 0 0].toList.drop (0 + [Value.slice a1 D.length c1, Value.slice a2 L.length c2].length)).toArray = w3 := hw3.symm
    rw [e4]
    clear e4
    have z3 : w3.heap.size = w1.heap.size + 1 := by rw [hw3]; simp [z2]
    have b3 : w3.heap[w1.heap.size]? = some (.cells #[.slice a1 D.length c1, .slice a2 L.length c2] 32) := by rw [hw3]; exact setRow_heap _ _ _ _ _ _ b2
    have k3 : Below w1.heap.size w1 w3 := by rw [hw3]; exact k2.trans ⟨rfl, rfl, rfl, by simp, fun k hk => setRow_other _ _ _ _ (by omega)⟩
    clear hw3 b2 k2
    obtain ⟨g, hg⟩ : ∃ g, w1.heap.size = g := ⟨_, rfl⟩
    have hgz := k1.size
    rw [hg] at z3 b3 k3 DP1 hgz ⊢
    have u0 : w3.cell? ⟨g, 0, none⟩ = some (.slice a1 D.length c1) := by simp [World.cell?, b3]
    have u1 : w3.cell? ⟨g, 1, none⟩ = some (.slice a2 L.length c2) := by simp [World.cell?, b3]
    have q3 : Below w.heap.size w w3 := k1.trans (k3.mono hgz)
    refine Lo.ctl rfl (fun _ => stepG_region_end) ?_
    refine Lo.ctl rfl (fun _ => stepG_seq) ?_
    refine Lo.ctl rfl (fun _ => stepG_region) ?_
    simp only [List.size_toArray, List.length_cons, List.length_nil, Nat.reduceAdd, Nat.zero_add, List.range, List.range.loop]
    refine Lo.load (A := ⟨g, 0, none⟩) (vs := [.slice a1 D.length c1, .slice a2 L.length c2]) rfl rfl (by decide) rfl (by simp [ev_put_ne, ev_put_eq, ev_const, ev_put_none, sz_put, hs, h00]) (.agg Try.underlying32 rfl Try.type32 rfl (by simp)) (cells2 u0 u1) ?_
    simp only [List.getElem_toArray, List.getElem_cons_succ, List.getElem_cons_zero, ev_put_none]
    obtain ⟨DP, R1, R2⟩ := DP1 w3 k3
    refine Lo.enter (f := 16) (vs := #[.agg #[.slice a1 D.length c1, .slice a2 L.length c2]]) rfl rfl (by decide) rfl Try.func16 (by kernel_rfl) (by kernel_rfl) (by simp [ev_put_ne, ev_put_eq, ev_const, ev_put_none, sz_put, hs, h00]) ?_
    refine lo_mono (fun _ _ => .inl) (cut_go DP fun v w6 ao cp hv hL k6 => ?_)
    subst hv
    rw [Frame.finish_at]
    simp only [List.getElem?_toArray, List.getElem?_cons_succ, List.getElem?_cons_zero, Option.bind_some]
    exact tailC (g := g) (n := (D.length + L.length + 2) / 3) (cl := cp) (al := ao) (b1 := a1) (b2 := a2) (c1 := c1) (c2 := c2) (D := D) (L := L) (by simp [sz_put, hs]) (by simpa [df_put] using hd) (by simp [ev_put_ne, ev_put_eq, ev_const, ev_put_none, sz_put, hs, h00]) (by simp [ev_put_ne, ev_put_eq, ev_const, ev_put_none, sz_put, hs, h00]) ((k6.cell (World.block_lt_of_cell? _ _ u0)).trans u0) ((k6.cell (World.block_lt_of_cell? _ _ u1)).trans u1) (R1.below k6) (R2.below k6) hL (by omega) hsm (q3.trans (k6.mono q3.size))
end Go.Proofs.Ytjkfnjjkjhggfaa
