/- Tries: putting an entry; the trie of a table. -/
import Derived.Test.YtbhenfegklgkoaaTj
set_option linter.unusedSimpArgs false
set_option linter.unusedVariables false
namespace Go.Proofs.Ytbhenfegklgkoaa
open Go.RowKit

set_option maxHeartbeats 4000000 in
theorem tput_any (f c B root : Nat) (v : Int) (nd : Nat → Option Nat) (vs : Nat → Int) (w : World) (ha : f < 256) (hc : c ≤ 8) (hB : B ≤ w.heap.size) (hT : Tr w B root nd vs) :
    Calls Try.prog 68 #[.pointer (some ⟨root, 0, none⟩), .agg #[.int .i64 f, .int .i64 c, .int .i64 v]] w fun e w' => e = .returned (.tuple #[]) ∧ (∃ nd', Tr w' B root nd' (upd vs (up f c) v)) ∧ Below B w w' := by
  have hlt : ∀ i g, nd i = some g → g < w.heap.size := fun i g hg => World.block_lt_of_cell? w _ (hT.node i g hg).c0
  have HT := Lib.hid (hT.below ((Below.refl _ _).alloc (Nat.le_refl _) (.cells #[.int .i64 f, .int .i64 c, .int .i64 v] 29)))
  have hr0 : Hid (nd (up f 0) = some root) := by show _ = _; rw [up_0 ha]; exact hT.root
  have hne : Hid (∀ i g, nd i = some g → g ≠ w.heap.size) := fun i g hg => by have := hlt i g hg; omega
  have hB0 := (Below.refl B w).alloc hB (.cells #[.int .i64 f, .int .i64 c, .int .i64 v] 29)
  have e0 : (w.alloc (.cells #[.int .i64 f, .int .i64 c, .int .i64 v] 29)).cell? ⟨w.heap.size, 0, none⟩ = some (.int .i64 f) := by simp
  have e1 : (w.alloc (.cells #[.int .i64 f, .int .i64 c, .int .i64 v] 29)).cell? ⟨w.heap.size, 1, none⟩ = some (.int .i64 c) := by simp
  have e2 : (w.alloc (.cells #[.int .i64 f, .int .i64 c, .int .i64 v] 29)).cell? ⟨w.heap.size, 2, none⟩ = some (.int .i64 v) := by simp
  clear hlt hT
  go_enter Try.func68, Try.ntmps68
  go_wp2
  go_loopw [0, 9] (fun s0 s9 wr => ∃ (k : Nat) (nd' : Nat → Option Nat) (g : Nat), k ≤ c ∧ s9 = .int .i64 k ∧ s0 = .pointer (some ⟨g, 0, none⟩) ∧ Hid (nd' (up f k) = some g) ∧ Hid (Tr wr B root nd' vs) ∧ Hid (∀ i g, nd' i = some g → g ≠ w.heap.size) ∧ wr.cell? ⟨w.heap.size, 0, none⟩ = some (.int .i64 f) ∧ wr.cell? ⟨w.heap.size, 1, none⟩ = some (.int .i64 c) ∧ wr.cell? ⟨w.heap.size, 2, none⟩ = some (.int .i64 v) ∧ Below B w wr) (fun _ s9 _ => 9 - (intOf s9).toNat)
  case atStart => exact ⟨0, nd, root, by omega, rfl, rfl, hr0.out, HT.out, hne.out, e0, e1, e2, hB0⟩
  case round =>
    clear hB0 e0 e1 e2 HT hr0 hne
    obtain ⟨k, nd', g, hk, rfl, rfl, hg, hT, hne, e0, e1, e2, hBw⟩ := hrel
    have hsz := hBw.size
    by_cases hlt : k < c
    · have hk8 : k < 8 := by omega
      have hst := Lib.hid (up_step (a := f) hk8)
      have hup := up_pos (k := k) ha (by omega)
      have hbb : up f (k + 1) % 2 = 0 ∨ up f (k + 1) % 2 = 1 := by omega
      have cc0 := fun x : Cl wr.heap.size wr => x.cell e0
      have HE0 := Lib.hid e0
      have HE1 := Lib.hid e1
      have HE2 := Lib.hid e2
      clear e0 e1 e2
      have hlt2 := World.block_lt_of_cell? wr _ HE0.out
      dsimp only at hlt2
      rcases hbb with hbt | hbt
      · have hn2 : Hid (up f (k + 1) = 2 * up f k) := by show _ = _; rw [hst.out, hbt]; rfl
        go_wp2
        first | refine wp_region_new (by kernel_rfl) (by kernel_rfl) ?_ | refine wp_region_lex ?_
        repeat (any_goals (first | go_big_quiet_step (((go_at_call 69; exact Calls.cl (bitOf_any f k _ ha hk8)))) | (refine wpQuiet_step (fun K hK => ?_); go_simp; split <;> (rename_i hg; refine hK _ ?_; clear hK K; simp only [hg, decide_true, decide_false]))))
        all_goals (refine wpQuiet_nil ?_; intro x)
        have hTx := hT.out.below x.below
        have hN := hTx.node _ _ hg.out
        have h0 := x.cell HE0.out
        have h1 := x.cell HE1.out
        have h2 := x.cell HE2.out
        have hBx := hBw.trans (x.below.mono (Nat.le_trans hB hsz))
        have hsx := x.below.size
        have HTx := Lib.hid hTx
        have cN := hN.c1
        have fN := hN.f1
        have hlo := hN.lo
        have hgn := hne.out _ _ hg.out
        clear hTx hN hBw cc0 HE0 HE1 HE2
        generalize x.W = wq at *
        obtain ⟨o, ho⟩ : ∃ o, Hid (nd' (2 * up f k) = o) := ⟨_, rfl⟩
        rw [ho.out] at cN
        cases o with
        | none =>
          rw [pO_none] at cN
          have hgl := World.block_lt_of_cell? wq _ cN
          dsimp only at hgl
          have hal := (Below.refl wq.heap.size wq).alloc (Nat.le_refl _) (.cells #[.int .i64 0, .pointer none, .pointer none] 82)
          have ca := (hal.cell (p := ⟨g, 1, none⟩) hgl).trans cN
          have fa := (hal.frozen (p := ⟨g, 1, none⟩) hgl).trans fN
          have hGr := Lib.hid (HTx.out.grow (bit := 0) hup (by omega) hg.out ho.out 82 (by omega))
          have g0 : Hid (((wq.alloc (.cells #[.int .i64 0, .pointer none, .pointer none] 82)).setCell ⟨g, 1, none⟩ (.pointer (some ⟨wq.heap.size, 0, none⟩))).cell? ⟨w.heap.size, 0, none⟩ = some (.int .i64 f)) := (World.cell?_setCell_other _ _ _ _ (by intro e; injection e with e; exact hgn e)).trans ((hal.cell (World.block_lt_of_cell? wq _ h0)).trans h0)
          have g1 : Hid (((wq.alloc (.cells #[.int .i64 0, .pointer none, .pointer none] 82)).setCell ⟨g, 1, none⟩ (.pointer (some ⟨wq.heap.size, 0, none⟩))).cell? ⟨w.heap.size, 1, none⟩ = some (.int .i64 c)) := (World.cell?_setCell_other _ _ _ _ (by intro e; injection e with e; exact hgn e)).trans ((hal.cell (World.block_lt_of_cell? wq _ h1)).trans h1)
          have g2 : Hid (((wq.alloc (.cells #[.int .i64 0, .pointer none, .pointer none] 82)).setCell ⟨g, 1, none⟩ (.pointer (some ⟨wq.heap.size, 0, none⟩))).cell? ⟨w.heap.size, 2, none⟩ = some (.int .i64 v)) := (World.cell?_setCell_other _ _ _ _ (by intro e; injection e with e; exact hgn e)).trans ((hal.cell (World.block_lt_of_cell? wq _ h2)).trans h2)
          have hB3 := (hBx.alloc (by omega) (.cells #[.int .i64 0, .pointer none, .pointer none] 82)).setCell (p := ⟨g, 1, none⟩) hlo (.pointer (some ⟨wq.heap.size, 0, none⟩))
          have hneN : Hid (∀ i g', grw nd' (2 * up f k + 0) wq.heap.size i = some g' → g' ≠ w.heap.size) := fun i g' hi => by
            unfold grw at hi
            split at hi
            · injection hi with hi; omega
            · exact hne.out i g' hi
          have hgN : Hid (grw nd' (2 * up f k + 0) wq.heap.size (up f (k + 1)) = some wq.heap.size) := by
            show (if up f (k + 1) = 2 * up f k then _ else _) = _
            rw [if_pos hn2.out]
          have hcomm := fun i u => World.setCell_alloc_past (w := wq) (.cells #[.int .i64 0, .pointer none, .pointer none] 82) g i u hgl
          have hX : Hid (∃ nd2, nd2 (up f (k + 1)) = some wq.heap.size ∧ Tr ((wq.setCell ⟨g, 1, none⟩ (.pointer (some ⟨wq.heap.size, 0, none⟩))).alloc (.cells #[.int .i64 0, .pointer none, .pointer none] 82)) B root nd2 vs ∧ (∀ i g', nd2 i = some g' → g' ≠ w.heap.size)) := by
            refine ⟨_, hgN.out, ?_, hneN.out⟩
            rw [← hcomm]; exact hGr.out
          replace g0 := Lib.hid (show _ = _ from (hcomm _ _) ▸ g0.out)
          replace g1 := Lib.hid (show _ = _ from (hcomm _ _) ▸ g1.out)
          replace g2 := Lib.hid (show _ = _ from (hcomm _ _) ▸ g2.out)
          rw [hcomm] at hB3
          clear h0 h1 h2 hcomm
          obtain ⟨nd2, hx1, hx2, hx3⟩ := hX.out
          go_wp2
          go_roundw
          case rel => exact ⟨k + 1, nd2, wq.heap.size, by omega, by go_num, rfl, hx1, hx2, hx3, g0.out, g1.out, g2.out, hB3⟩
          case measure => simp [intOf]; omega
        | some gb =>
          rw [pO_some] at cN
          have hgN : Hid (nd' (up f (k + 1)) = some gb) := by show _ = _; rw [hn2.out]; exact ho.out
          go_wp2
          go_roundw
          case rel => exact ⟨k + 1, nd', gb, by omega, by go_num, rfl, hgN, HTx, hne, h0, h1, h2, hBx⟩
          case measure => simp [intOf]; omega
      · have hn2 : Hid (up f (k + 1) = 2 * up f k + 1) := by show _ = _; rw [hst.out, hbt]
        go_wp2
        first | refine wp_region_new (by kernel_rfl) (by kernel_rfl) ?_ | refine wp_region_lex ?_
        repeat (any_goals (first | go_big_quiet_step (((go_at_call 69; exact Calls.cl (bitOf_any f k _ ha hk8)))) | (refine wpQuiet_step (fun K hK => ?_); go_simp; split <;> (rename_i hg; refine hK _ ?_; clear hK K; simp only [hg, decide_true, decide_false]))))
        all_goals (refine wpQuiet_nil ?_; intro x)
        have hTx := hT.out.below x.below
        have hN := hTx.node _ _ hg.out
        have h0 := x.cell HE0.out
        have h1 := x.cell HE1.out
        have h2 := x.cell HE2.out
        have hBx := hBw.trans (x.below.mono (Nat.le_trans hB hsz))
        have hsx := x.below.size
        have HTx := Lib.hid hTx
        have cN := hN.c2
        have fN := hN.f2
        have hlo := hN.lo
        have hgn := hne.out _ _ hg.out
        clear hTx hN hBw cc0 HE0 HE1 HE2
        generalize x.W = wq at *
        obtain ⟨o, ho⟩ : ∃ o, Hid (nd' (2 * up f k + 1) = o) := ⟨_, rfl⟩
        rw [ho.out] at cN
        cases o with
        | none =>
          rw [pO_none] at cN
          have hgl := World.block_lt_of_cell? wq _ cN
          dsimp only at hgl
          have hal := (Below.refl wq.heap.size wq).alloc (Nat.le_refl _) (.cells #[.int .i64 0, .pointer none, .pointer none] 82)
          have ca := (hal.cell (p := ⟨g, 2, none⟩) hgl).trans cN
          have fa := (hal.frozen (p := ⟨g, 2, none⟩) hgl).trans fN
          have hGr := Lib.hid (HTx.out.grow (bit := 1) hup (by omega) hg.out ho.out 82 (by omega))
          have g0 : Hid (((wq.alloc (.cells #[.int .i64 0, .pointer none, .pointer none] 82)).setCell ⟨g, 2, none⟩ (.pointer (some ⟨wq.heap.size, 0, none⟩))).cell? ⟨w.heap.size, 0, none⟩ = some (.int .i64 f)) := (World.cell?_setCell_other _ _ _ _ (by intro e; injection e with e; exact hgn e)).trans ((hal.cell (World.block_lt_of_cell? wq _ h0)).trans h0)
          have g1 : Hid (((wq.alloc (.cells #[.int .i64 0, .pointer none, .pointer none] 82)).setCell ⟨g, 2, none⟩ (.pointer (some ⟨wq.heap.size, 0, none⟩))).cell? ⟨w.heap.size, 1, none⟩ = some (.int .i64 c)) := (World.cell?_setCell_other _ _ _ _ (by intro e; injection e with e; exact hgn e)).trans ((hal.cell (World.block_lt_of_cell? wq _ h1)).trans h1)
          have g2 : Hid (((wq.alloc (.cells #[.int .i64 0, .pointer none, .pointer none] 82)).setCell ⟨g, 2, none⟩ (.pointer (some ⟨wq.heap.size, 0, none⟩))).cell? ⟨w.heap.size, 2, none⟩ = some (.int .i64 v)) := (World.cell?_setCell_other _ _ _ _ (by intro e; injection e with e; exact hgn e)).trans ((hal.cell (World.block_lt_of_cell? wq _ h2)).trans h2)
          have hB3 := (hBx.alloc (by omega) (.cells #[.int .i64 0, .pointer none, .pointer none] 82)).setCell (p := ⟨g, 2, none⟩) hlo (.pointer (some ⟨wq.heap.size, 0, none⟩))
          have hneN : Hid (∀ i g', grw nd' (2 * up f k + 1) wq.heap.size i = some g' → g' ≠ w.heap.size) := fun i g' hi => by
            unfold grw at hi
            split at hi
            · injection hi with hi; omega
            · exact hne.out i g' hi
          have hgN : Hid (grw nd' (2 * up f k + 1) wq.heap.size (up f (k + 1)) = some wq.heap.size) := by
            show (if up f (k + 1) = 2 * up f k + 1 then _ else _) = _
            rw [if_pos hn2.out]
          have hcomm := fun i u => World.setCell_alloc_past (w := wq) (.cells #[.int .i64 0, .pointer none, .pointer none] 82) g i u hgl
          have hX : Hid (∃ nd2, nd2 (up f (k + 1)) = some wq.heap.size ∧ Tr ((wq.setCell ⟨g, 2, none⟩ (.pointer (some ⟨wq.heap.size, 0, none⟩))).alloc (.cells #[.int .i64 0, .pointer none, .pointer none] 82)) B root nd2 vs ∧ (∀ i g', nd2 i = some g' → g' ≠ w.heap.size)) := by
            refine ⟨_, hgN.out, ?_, hneN.out⟩
            rw [← hcomm]; exact hGr.out
          replace g0 := Lib.hid (show _ = _ from (hcomm _ _) ▸ g0.out)
          replace g1 := Lib.hid (show _ = _ from (hcomm _ _) ▸ g1.out)
          replace g2 := Lib.hid (show _ = _ from (hcomm _ _) ▸ g2.out)
          rw [hcomm] at hB3
          clear h0 h1 h2 hcomm
          obtain ⟨nd2, hx1, hx2, hx3⟩ := hX.out
          go_wp2
          go_roundw
          case rel => exact ⟨k + 1, nd2, wq.heap.size, by omega, by go_num, rfl, hx1, hx2, hx3, g0.out, g1.out, g2.out, hB3⟩
          case measure => simp [intOf]; omega
        | some gb =>
          rw [pO_some] at cN
          have hgN : Hid (nd' (up f (k + 1)) = some gb) := by show _ = _; rw [hn2.out]; exact ho.out
          go_wp2
          go_roundw
          case rel => exact ⟨k + 1, nd', gb, by omega, by go_num, rfl, hgN, HTx, hne, h0, h1, h2, hBx⟩
          case measure => simp [intOf]; omega
    · obtain rfl : k = c := by omega
      have hN := hT.out.node _ _ hg.out
      have c0 := hN.c0
      have f0 := hN.f0
      have hlo := hN.lo
      have hTv := Lib.hid (hT.out.via hg.out v)
      have hB2 := hBw.setCell (p := ⟨g, 0, none⟩) hlo (.int .i64 v)
      clear hN
      go_wp2
      go_end0
      exact ⟨rfl, ⟨nd', hTv.out⟩, hB2⟩
end Go.Proofs.Ytbhenfegklgkoaa
