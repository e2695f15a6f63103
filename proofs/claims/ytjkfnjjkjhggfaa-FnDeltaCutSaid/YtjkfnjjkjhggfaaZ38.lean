/- From a walk alone over the rest of a body to the judgement behind the last receive. The law on letters, behind impl.DeltaCut. The law on counting, alone up to the go statement. -/
import Derived.Test.YtjkfnjjkjhggfaaZ37
import Derived.Test.YtjkfnjjkjhggfaaZ23
import Derived.Test.YtjkfnjjkjhggfaaZ36
set_option linter.unusedSimpArgs false
set_option linter.unusedVariables false
namespace Go.Proofs.Ytjkfnjjkjhggfaa
open Go.Conc

section
variable {P : Program} {F : FuncId → Bool}
theorem results_at {fn : Func} {tmps : Array Value} {w : World} {v : Value} (h : (results fn tmps).run P w = .ok v w) (τ : Nat → Question → Nat) (d : Nat) : (results fn tmps).run P (tp w τ d) = .ok v (tp w τ d) := by
  obtain ⟨_, r, h6, h7⟩ := run_follow _ (cm_results (P := P) fn tmps) w v w h
  have hr : r = 0 := by omega
  subst hr
  exact h7 τ d (fun j hj => by omega)
theorem goi_tail (hP : PlainProg P F) {f : FuncId} {fn : Func} (hfn : P.funcs[f]? = some fn) (hi : P.inits.idxOf? f = none) {a : Act} {c : Code} {w : World} (hd : a.defers = []) (hk : okItem F (.code c) = true)
    {R : Value → World → Prop} (hB : ∀ v w τ d, R v w → R v (tp w τ d)) (h : ∀ τ d, c.wp P (bodyPost P fn fun e w' => ∃ v, e = .returned v ∧ R v w') a (tp w τ d))
    {Post : Value → World → Prop} (hpost : ∀ v w' d, R v w' → w'.tape = w.tape → Post v (w'.at d)) : RetO P Post (G ((base f).at a [.code c]) []) w := by
  let Q : Frame → World → Prop := fun fr w' => ∃ v, fr.defers = [] ∧ fr.kind = .normal ∧ fr.fn = f ∧ (results fn fr.tmps).run P w' = .ok v w' ∧ R v w'
  have hQ : Blind Q := fun fr w' τ d ⟨v, h1, h2, h3, h4, h5⟩ => ⟨v, h1, h2, h3, results_at h4 τ d, hB v w' τ d h5⟩
  have hsome : (P.funcs[f]?).isSome = true := by rw [hfn]; rfl
  have hg := goi_of_tt (Q := Q) (w := w) (cs := []) (fr := (base f).at a [.code c]) (up := []) hP hQ ⟨.inl ⟨f, a, _, rfl, hd, hsome, by simpa using hk⟩, by simp⟩ (fun τ d => by
    obtain ⟨e, a', w', hq, har⟩ := h τ d (base f) [] [dead]
    cases e with
    | normal =>
      obtain ⟨hd', v, hres, v', hv, hR⟩ := hq
      cases hv
      obtain ⟨N, hN⟩ := Steps.trans har (Steps.one step_end)
      exact ⟨N, _, w', hN, rfl, v, hd', rfl, rfl, hres, hR⟩
    | ret =>
      obtain ⟨hd', v, hres, v', hv, hR⟩ := hq
      cases hv
      obtain ⟨todo, N, hN⟩ := har
      exact ⟨N, _, w', hN, rfl, v, hd', rfl, rfl, hres, hR⟩
    | panic ch => obtain ⟨_, v, hv, _⟩ := hq; cases hv
    | outgrown => obtain ⟨v, hv, _⟩ := hq; cases hv
    | exit id => exact hq.elim
    | goto l => exact hq.elim)
  refine GoI.bind hg ?_
  rintro g w' ⟨⟨fr, rfl, hm, v, h1, h2, h3, h4, h5⟩, ht⟩
  refine GoI.stop rfl fun d => ?_
  have h8 : (results fn fr.tmps).run P (w'.at d) = .ok v (w'.at d) := results_at h4 w'.tape d
  subst h3
  refine ⟨rfl, v, seen P fr.fn ((results fn fr.tmps).events P (w'.at d) #[]), ?_, hpost v w' d h5 ht⟩
  simp [stepG, G, unwind, hm, h1, h2, hfn, h8, doReturn, GStep.after, hi]
end
end Go.Proofs.Ytjkfnjjkjhggfaa
set_option linter.unusedSimpArgs false
set_option linter.unusedVariables false
namespace Go.Proofs.Ytjkfnjjkjhggfaa
open Go.Conc Go.RowKit

/-- The functions that are reached behind impl.DeltaCut too. -/
def plainS : List FuncId := plainL ++ [18, 19, 37, 48, 57]
set_option maxRecDepth 100000 in
theorem plainProgS : PlainProg Try.prog (plainS.contains ·) := plainProg_of plainS (by kernel_rfl) (by kernel_rfl) (by kernel_rfl)
section
variable {w : World}
theorem Rows.tp {α : Type} {v : Value} {sz : Nat} {enc : α → List Value} {L : List α} (h : Rows w v sz enc L) (τ : Nat → Question → Nat) (d : Nat) : Rows (tp w τ d) v sz enc L := ⟨h.ex⟩
theorem It.tp {v : Value} {L : List Int} (h : It w v L) (τ : Nat → Question → Nat) (d : Nat) : It (tp w τ d) v L := ⟨Rows.tp h.1 τ d, h.2⟩
theorem RdsL.tp {rds : List RtD} {L : List Rt} (h : RdsL w rds L) (τ : Nat → Question → Nat) (d : Nat) : RdsL (tp w τ d) rds L := ⟨h.1, fun k t hk => by
  obtain ⟨r, a, b⟩ := h.2 k t hk
  exact ⟨r, a, b.1, Rows.tp b.2.1 τ d, Rows.tp b.2.2 τ d⟩⟩
theorem ris_tp {v : Value} {L : List Rt} (h : GLs shRi w v L) (τ : Nat → Question → Nat) (d : Nat) : GLs shRi (tp w τ d) v L := by
  obtain ⟨ds, h1, h2, h3⟩ := h.ex
  refine ⟨ds, h1.tp τ d, h2, fun k s hk => ?_⟩
  obtain ⟨r, a, b⟩ := h3 k s hk
  exact ⟨r, a, b.1, b.2.1.tp τ d, b.2.2.tp τ d⟩
theorem lts_tp {v : Value} {L : List Ltr} (h : Lts w v L) (τ : Nat → Question → Nat) (d : Nat) : Lts (tp w τ d) v L := by
  obtain ⟨ds, h1, h2, h3⟩ := h.ex
  refine ⟨ds, h1.tp τ d, h2, fun k s hk => ?_⟩
  obtain ⟨r, a, b⟩ := h3 k s hk
  exact ⟨r, a, Rows.tp b.1 τ d, Rows.tp b.2.1 τ d, b.2.2.tp τ d⟩
end
theorem lit_of (t : Array Value) (n : Nat) (h : t.size = n) : t = ((List.range n).map fun i => t.getD i undef).toArray := by
  subst h
  apply Array.ext
  · simp
  · intro i h1 h2
    simp [Array.getD, h1]
theorem lit97 (t : Array Value) (h : t.size = 97) : t = #[t.getD 0 undef, t.getD 1 undef, t.getD 2 undef, t.getD 3 undef, t.getD 4 undef, t.getD 5 undef, t.getD 6 undef, t.getD 7 undef, t.getD 8 undef, t.getD 9 undef, t.getD 10 undef, t.getD 11 undef, t.getD 12 undef, t.getD 13 undef, t.getD 14 undef, t.getD 15 undef, t.getD 16 undef, t.getD 17 undef, t.getD 18 undef, t.getD 19 undef, t.getD 20 undef, t.getD 21 undef, t.getD 22 undef, t.getD 23 undef, t.getD 24 undef, t.getD 25 undef, t.getD 26 undef, t.getD 27 undef, t.getD 28 undef, t.getD 29 undef, t.getD 30 undef, t.getD 31 undef, t.getD 32 undef, t.getD 33 undef, t.getD 34 undef, t.getD 35 undef, t.getD 36 undef, t.getD 37 undef, t.getD 38 undef, t.getD 39 undef, t.getD 40 undef, t.getD 41 undef, t.getD 42 undef, t.getD 43 undef, t.getD 44 undef, t.getD 45 undef, t.getD 46 undef, t.getD 47 undef, t.getD 48 undef, t.getD 49 undef, t.getD 50 undef, t.getD 51 undef, t.getD 52 undef, t.getD 53 undef, t.getD 54 undef, t.getD 55 undef, t.getD 56 undef, t.getD 57 undef, t.getD 58 undef, t.getD 59 undef, t.getD 60 undef, t.getD 61 undef, t.getD 62 undef, t.getD 63 undef, t.getD 64 undef, t.getD 65 undef, t.getD 66 undef, t.getD 67 undef, t.getD 68 undef, t.getD 69 undef, t.getD 70 undef, t.getD 71 undef, t.getD 72 undef, t.getD 73 undef, t.getD 74 undef, t.getD 75 undef, t.getD 76 undef, t.getD 77 undef, t.getD 78 undef, t.getD 79 undef, t.getD 80 undef, t.getD 81 undef, t.getD 82 undef, t.getD 83 undef, t.getD 84 undef, t.getD 85 undef, t.getD 86 undef, t.getD 87 undef, t.getD 88 undef, t.getD 89 undef, t.getD 90 undef, t.getD 91 undef, t.getD 92 undef, t.getD 93 undef, t.getD 94 undef, t.getD 95 undef, t.getD 96 undef] := (lit_of t 97 h).trans rfl
noncomputable def ops4C : Array Oper := match bodyC with | .seq _ (.seq _ (.seq _ (.seq (.region _ o _) _))) => o | _ => #[]
/-- What is left, but for the tape. -/
structure LeftC (w : World) (v : Value) (w' : World) : Prop where
  yes : v = .bool true
  os : w'.os = w.os
  out : w'.output = w.output
  size : w.heap.size ≤ w'.heap.size
  block : ∀ k, k < w.heap.size → w'.heap[k]? = w.heap[k]?
theorem rc_post {w0 w w' : World} {v : Value} (hb : Below w0.heap.size w0 w) (d : Nat) (h : LeftC w v w') (ht : w'.tape = w.tape) : PostL w0 v (w'.at d) :=
  ⟨h.yes, h.os.trans hb.os, ht.trans hb.tape, h.out.trans hb.output, Nat.le_trans hb.size h.size, fun k hk => (h.block k (Nat.lt_of_lt_of_le hk hb.size)).trans (hb.block k hk)⟩
set_option maxRecDepth 100000 in
set_option maxHeartbeats 4000000 in
theorem tailC {w0 w : World} {a : Act} {g n cl c1 c2 : Nat} {al b1 b2 : Option Addr} {D : List Rg} {L : List Rt} (hs : a.tmps.size = 97) (hd : a.defers = []) (h3 : a.eval (.tmp 3) = .pointer (some ⟨g, 0, none⟩)) (h16 : a.eval (.tmp 16) = .slice al n cl)
    (hd0 : w.cell? ⟨g, 0, none⟩ = some (.slice b1 D.length c1)) (hd1 : w.cell? ⟨g, 1, none⟩ = some (.slice b2 L.length c2)) (hs1 : Rows w (.slice b1 D.length c1) 2 encRg D) (hs2 : GLs shRi w (.slice b2 L.length c2) L) (hl : Lts w (.slice al n cl) (pcs D L)) (hN : D.length + L.length ≤ 1000) (hsm : ∀ s ∈ L, SmRt s) (hb : Below w0.heap.size w0 w) :
    RetO Try.prog (PostL w0) (G ((base 5).at a (.inRegion ops4C [2] :: [.code codeS])) []) w := by
  have e : ops4C = ops4C := rfl
  conv at e => rhs; simp only [ops4C, bodyC, Try.f5, Option.getD_some]
  rw [e]
  clear e
  refine RetO.pu (Pu.assign (v := .slice al n cl) rfl h16) rfl rfl (by decide) ?_
  simp only [List.getElem_toArray, List.getElem_cons_succ, List.getElem_cons_zero, ev_put_none]
  refine RetO.ctl rfl (fun _ => stepG_region_end) ?_
  obtain ⟨b, hbe⟩ : ∃ b, a.put (some 4) (.slice al n cl) = b := ⟨_, rfl⟩
  have h3b : b.eval (.tmp 3) = .pointer (some ⟨g, 0, none⟩) := by rw [← hbe]; simp [ev_put_ne, h3]
  have h4b : b.eval (.tmp 4) = .slice al n cl := by rw [← hbe]; simp [ev_put_eq, hs]
  have hsb : b.tmps.size = 97 := by rw [← hbe]; simp [sz_put, hs]
  have hdb : b.defers = [] := by rw [← hbe]; simpa [df_put] using hd
  rw [hbe]
  clear hbe h3 h16 hs hd
  refine goi_tail (F := (plainS.contains ·)) (R := LeftC w) plainProgS Try.func5 (by kernel_rfl) hdb (by kernel_rfl) (fun v w' τ d h => ⟨h.yes, h.os, h.out, h.size, h.block⟩) (fun τ d => ?_) (fun v w' d h ht => rc_post hb d h ht)
  obtain ⟨t, ds⟩ := b
  dsimp only at hsb hdb
  subst hdb
  replace h3b : t.getD 3 undef = .pointer (some ⟨g, 0, none⟩) := h3b
  replace h4b : t.getD 4 undef = .slice al n cl := h4b
  rw [lit97 t hsb, h3b, h4b]
  refine Code.wp_mono ?_ (suffix_wp (w := tp w τ d) (D := D) (L := L) (g := g) (al := al) (n := n) (cl := cl) (b1 := b1) (b2 := b2) (c1 := c1) (c2 := c2) hd0 hd1 (hs1.tp τ d) (ris_tp hs2 τ d).rts (lts_tp hl τ d) hN (specCut_of (hs1.tp τ d) (ris_tp hs2 τ d) hN hsm))
  have hLC : ∀ v w', v = .bool true → Below (tp w τ d).heap.size (tp w τ d) w' → LeftC w v w' := fun v w' h k => ⟨h, k.os, k.output, k.size, k.block⟩
  intro e a' w' hq
  cases e with
  | normal =>
    obtain ⟨hd', v, hr, v', hv, h1, h2⟩ := hq
    exact ⟨hd', v, hr, v', hv, hLC _ _ h1 h2⟩
  | ret =>
    obtain ⟨hd', v, hr, v', hv, h1, h2⟩ := hq
    exact ⟨hd', v, hr, v', hv, hLC _ _ h1 h2⟩
  | panic ch => obtain ⟨_, v, hv, _⟩ := hq; cases hv
  | outgrown => obtain ⟨v, hv, _⟩ := hq; cases hv
  | exit id => exact hq.elim
  | goto l => exact hq.elim
end Go.Proofs.Ytjkfnjjkjhggfaa
set_option linter.unusedSimpArgs false
set_option linter.unusedVariables false
namespace Go.Proofs.Ytjkfnjjkjhggfaa
open Go.Conc Go.RowKit

theorem cells2 {w : World} {g : Nat} {x y : Value} (h0 : w.cell? ⟨g, 0, none⟩ = some x) (h1 : w.cell? ⟨g, 1, none⟩ = some y) : ∀ j u, [x, y][j]? = some u → w.cell? ((⟨g, 0, none⟩ : Addr).add j) = some u := fun j u hj => by
  rw [addr_add]
  match j, hj with
  | 0, hj => cases hj; exact h0
  | 1, hj => cases hj; exact h1
theorem lo_mono {P : Program} {A B : Goroutine → World → Prop} (hAB : ∀ g w, A g w → B g w) {g : Goroutine} {w : World} (h : Lo P A g w) : Lo P B g w := by
  obtain ⟨n, h⟩ := h
  exact ⟨n, goes_mono hAB h⟩
set_option maxRecDepth 100000 in
set_option maxHeartbeats 4000000 in
theorem FnDeltaMany_run (a0 : Option Addr) (n0 c0 : Nat) (w : World) (hG : Given w (.slice a0 n0 c0)) :
    ∃ M last o w' t', runNT Try.prog (M + 1) (solo (G (Frame.enter Try.prog 4 #[.slice a0 n0 c0] .normal) []) w) #[] = (.ended o w', t') ∧ runN Try.prog M (solo (G (Frame.enter Try.prog 4 #[.slice a0 n0 c0] .normal) []) w) = .next last ∧ step Try.prog last = .ended o w' ∧ Go.Conc.Good Try.prog (PostL w) last o w' t' := by
  refine soloOrFork ?_
  rw [enter_at _ Try.func4 (show Try.f4.body = some bodyL from rfl)]
  generalize ha : Act.mk _ [] = a
  have hs : a.tmps.size = 37 := by rw [← ha]; simp [Try.ntmps4]
  have hd : a.defers = [] := by rw [← ha]
  have h00 : a.eval (.tmp 0) = .slice a0 n0 c0 := by rw [← ha]; simp [Act.eval]
  clear ha
  have e : bodyL = bodyL := rfl
  conv at e => rhs; simp only [bodyL, Try.f4, Option.getD_some]
  rw [e]
  clear e
  refine Lo.ctl rfl (fun _ => stepG_seq) ?_
  refine Lo.ctl rfl (fun _ => stepG_region) ?_
  simp only [List.size_toArray, List.length_cons, List.length_nil, Nat.reduceAdd, Nat.zero_add, List.range, List.range.loop]
  refine Lo.pu (Pu.assign (v := .bool false) rfl rfl) rfl rfl (by decide) ?_
  simp only [List.getElem_toArray, List.getElem_cons_succ, List.getElem_cons_zero, ev_put_none]
  refine Lo.ctl rfl (fun _ => stepG_region_end) ?_
  refine Lo.ctl rfl (fun _ => stepG_seq) ?_
  refine Lo.ctl rfl (fun _ => stepG_seq) ?_
  refine Lo.ctl rfl (fun _ => stepG_region) ?_
  simp only [List.size_toArray, List.length_cons, List.length_nil, Nat.reduceAdd, Nat.zero_add, List.range, List.range.loop]
  refine Lo.pu (Pu.move (v := .slice a0 n0 c0) rfl (by simp [ev_put_ne, ev_put_eq, ev_const, ev_put_none, sz_put, hs, h00])) rfl rfl (by decide) ?_
  simp only [List.getElem_toArray, List.getElem_cons_succ, List.getElem_cons_zero, ev_put_none]
  refine Lo.pu (Pu.len (ao := a0) (m := n0) (cp := c0) rfl Try.underlying28 (by simp [ev_put_ne, ev_put_eq, ev_const, ev_put_none, sz_put, hs, h00])) rfl rfl (by decide) ?_
  simp only [List.getElem_toArray, List.getElem_cons_succ, List.getElem_cons_zero, ev_put_none]
  by_cases hbig : (n0 : Int) > 1048576
  ·
    refine Lo.pu (Pu.bin (m := n0) (l := 1048576) (v := .bool true) rfl (by simp [ev_put_ne, ev_put_eq, ev_const, ev_put_none, sz_put, hs, h00]) (by simp [ev_put_ne, ev_put_eq, ev_const, ev_put_none, sz_put, hs, h00]) (by rw [bin_gtr, decide_eq_true hbig])) rfl rfl (by decide) ?_
    simp only [List.getElem_toArray, List.getElem_cons_succ, List.getElem_cons_zero, ev_put_none]
    refine Lo.ctl rfl (fun _ => stepG_region_end) ?_
    refine Lo.ctl rfl (fun _ => stepG_cond (t := true) (by simp [ev_put_ne, ev_put_eq, ev_const, ev_put_none, sz_put, hs, h00])) ?_
    simp only [if_true]
    refine Lo.ctl rfl (fun _ => stepG_seq) ?_
    refine Lo.ctl rfl (fun _ => stepG_region) ?_
    simp only [List.size_toArray, List.length_cons, List.length_nil, Nat.reduceAdd, Nat.zero_add, List.range, List.range.loop]
    refine Lo.pu (Pu.assign (v := .bool true) rfl rfl) rfl rfl (by decide) ?_
    simp only [List.getElem_toArray, List.getElem_cons_succ, List.getElem_cons_zero, ev_put_none]
    refine Lo.ctl rfl (fun _ => stepG_region_end) ?_
    refine Lo.ctl rfl (fun _ => stepG_ret') ?_
    exact Lo.stop (.inr (atRet_of (by simp [df_put, hd]) Try.func4 rfl (by kernel_rfl) ⟨evt2 _ (by simp [sz_put, hs]), Below.refl _ _⟩))
  ·
    refine Lo.pu (Pu.bin (m := n0) (l := 1048576) (v := .bool false) rfl (by simp [ev_put_ne, ev_put_eq, ev_const, ev_put_none, sz_put, hs, h00]) (by simp [ev_put_ne, ev_put_eq, ev_const, ev_put_none, sz_put, hs, h00]) (by rw [bin_gtr, decide_eq_false hbig])) rfl rfl (by decide) ?_
    simp only [List.getElem_toArray, List.getElem_cons_succ, List.getElem_cons_zero, ev_put_none]
    refine Lo.ctl rfl (fun _ => stepG_region_end) ?_
    refine Lo.ctl rfl (fun _ => stepG_cond (t := false) (by simp [ev_put_ne, ev_put_eq, ev_const, ev_put_none, sz_put, hs, h00])) ?_
    simp only [if_false, Bool.false_eq_true]
    refine Lo.ctl rfl (fun _ => stepG_skip) ?_
    refine Lo.ctl rfl (fun _ => stepG_seq) ?_
    refine Lo.ctl rfl (fun _ => stepG_region) ?_
    simp only [List.size_toArray, List.length_cons, List.length_nil, Nat.reduceAdd, Nat.zero_add, List.range, List.range.loop]
    refine Lo.pu (Pu.move (v := .slice a0 n0 c0) rfl (by simp [ev_put_ne, ev_put_eq, ev_const, ev_put_none, sz_put, hs, h00])) rfl rfl (by decide) ?_
    simp only [List.getElem_toArray, List.getElem_cons_succ, List.getElem_cons_zero, ev_put_none]
    refine Lo.call plainProg (f := 13) (vs := #[.slice a0 n0 c0]) rfl rfl (by decide) rfl Try.func13 (by kernel_rfl) (by kernel_rfl) (by kernel_rfl) (by simp [ev_put_ne, ev_put_eq, ev_const, ev_put_none, sz_put, hs, h00]) (drawDeltaMany_any _ _ hG) (fun e w' h => by obtain ⟨s1, s2, D, L, rfl, -⟩ := h; exact ⟨_, rfl⟩) ?_
    rintro v w1 ⟨s1, s2, D, L, hv, hD, hT, hl, hsm, k1⟩
    injection hv with hv
    subst hv
    simp only [List.getElem_toArray, List.getElem_cons_succ, List.getElem_cons_zero, ev_put_none]
    have DP1 := fun w' (k : Below w1.heap.size w1 w') => dataPre_of (hD.below k) (hT.below k).gls hl hsm
    clear hD hT hsm
    obtain ⟨a1, c1, rfl⟩ := (DP1 w1 (Below.refl _ _)).sh1
    obtain ⟨a2, c2, rfl⟩ := (DP1 w1 (Below.refl _ _)).sh2
    obtain ⟨N1, hN1⟩ : ∃ N1, D.length = N1 := ⟨_, rfl⟩
    obtain ⟨N2, hN2⟩ : ∃ N2, L.length = N2 := ⟨_, rfl⟩
    rw [hN1, hN2] at DP1 hl ⊢
    clear hN1 hN2
    have hN : N1 + N2 ≤ 1000000 := by omega
    refine Lo.new rfl rfl (by decide) (.cells #[.slice none 0 0, .slice none 0 0] 32) (fun g => .pointer (some ⟨g, 0, none⟩)) (fun w => (alloc_law rfl zero_run zero_events w).1) (fun w => (alloc_law rfl zero_run zero_events w).2) ?_
    simp only [List.getElem_toArray, List.getElem_cons_succ, List.getElem_cons_zero, ev_put_none]
    obtain ⟨w2, hw2⟩ : ∃ w2, w2 = w1.alloc (.cells #[.slice none 0 0, .slice none 0 0] 32) := ⟨_, rfl⟩
    rw [← hw2]
    have z2 : w2.heap.size = w1.heap.size + 1 := by rw [hw2]; simp
    have b2 : w2.heap[w1.heap.size]? = some (.cells #[.slice none 0 0, .slice none 0 0] 32) := by rw [hw2]; exact heapA_new ..
    have k2 : Below w1.heap.size w1 w2 := by rw [hw2]; exact (Below.refl _ _).alloc (Nat.le_refl _) _
    clear hw2
    refine Lo.store (g := w1.heap.size) (off := 0) (vs := [.slice a1 N1 c1, .slice a2 N2 c2]) rfl rfl (by decide) rfl (by simp [ev_put_ne, ev_put_eq, ev_const, ev_put_none, sz_put, hs, h00]) (by simp [ev_put_ne, ev_put_eq, ev_const, sz_put, hs, Value.cells]) Try.type32 rfl (by simp [Value.oneCell']) b2 (by simp) ?_
    simp only [List.getElem_toArray, List.getElem_cons_succ, List.getElem_cons_zero, ev_put_none]
    obtain ⟨w3, hw3⟩ : ∃ w3, w3 = w2.setRow w1.heap.size #[.slice a1 N1 c1, .slice a2 N2 c2] := ⟨_, rfl⟩
    have e4 : w2.setRow w1.heap.size (#[Value.slice none 0 0, Value.slice none 0 0].toList.take 0 ++ [Value.slice a1 N1 c1, Value.slice a2 N2 c2] ++ #[Value.slice none 0 0, Value.slice none 0 0].toList.drop (0 + [Value.slice a1 N1 c1, Value.slice a2 N2 c2].length)).toArray = w3 := hw3.symm
    rw [e4]
    clear e4
    have z3 : w3.heap.size = w1.heap.size + 1 := by rw [hw3]; simp [z2]
    have b3 : w3.heap[w1.heap.size]? = some (.cells #[.slice a1 N1 c1, .slice a2 N2 c2] 32) := by rw [hw3]; exact setRow_heap _ _ _ _ _ _ b2
    have k3 : Below w1.heap.size w1 w3 := by rw [hw3]; exact k2.trans ⟨rfl, rfl, rfl, by simp, fun k hk => setRow_other _ _ _ _ (by omega)⟩
    clear hw3 b2 k2
    obtain ⟨g, hg⟩ : ∃ g, w1.heap.size = g := ⟨_, rfl⟩
    have hgz := k1.size
    rw [hg] at z3 b3 k3 DP1 hgz ⊢
    have u0 : w3.cell? ⟨g, 0, none⟩ = some (.slice a1 N1 c1) := by simp [World.cell?, b3]
    have u1 : w3.cell? ⟨g, 1, none⟩ = some (.slice a2 N2 c2) := by simp [World.cell?, b3]
    have q3 : Below w.heap.size w w3 := k1.trans (k3.mono hgz)
    refine Lo.ctl rfl (fun _ => stepG_region_end) ?_
    refine Lo.ctl rfl (fun _ => stepG_seq) ?_
    refine Lo.ctl rfl (fun _ => stepG_region) ?_
    simp only [List.size_toArray, List.length_cons, List.length_nil, Nat.reduceAdd, Nat.zero_add, List.range, List.range.loop]
    refine Lo.load (A := ⟨g, 0, none⟩) (vs := [.slice a1 N1 c1, .slice a2 N2 c2]) rfl rfl (by decide) rfl (by simp [ev_put_ne, ev_put_eq, ev_const, ev_put_none, sz_put, hs, h00]) (.agg Try.underlying32 rfl Try.type32 rfl (by simp)) (cells2 u0 u1) ?_
    simp only [List.getElem_toArray, List.getElem_cons_succ, List.getElem_cons_zero, ev_put_none]
    refine Lo.call plainProg (f := 14) (vs := #[.agg #[.slice a1 N1 c1, .slice a2 N2 c2]]) rfl rfl (by decide) rfl Try.func14 (by kernel_rfl) (by kernel_rfl) (by kernel_rfl) (by simp [ev_put_ne, ev_put_eq, ev_const, ev_put_none, sz_put, hs, h00]) (iDeltaMany_any a1 a2 N1 c1 N2 c2 _ hN) (fun e w' h => ⟨_, h.1⟩) ?_
    rintro v w4 ⟨hv, k4⟩
    injection hv with hv
    subst hv
    simp only [List.getElem_toArray, List.getElem_cons_succ, List.getElem_cons_zero, ev_put_none]
    refine Lo.pu (Pu.assign (v := .int .i64 ((N1 + N2 : Nat) : Int)) rfl (by simp [ev_put_ne, ev_put_eq, ev_const, ev_put_none, sz_put, hs, h00])) rfl rfl (by decide) ?_
    simp only [List.getElem_toArray, List.getElem_cons_succ, List.getElem_cons_zero, ev_put_none]
    refine Lo.ctl rfl (fun _ => stepG_region_end) ?_
    refine Lo.ctl rfl (fun _ => stepG_seq) ?_
    refine Lo.ctl rfl (fun _ => stepG_seq) ?_
    refine Lo.ctl rfl (fun _ => stepG_region) ?_
    simp only [List.size_toArray, List.length_cons, List.length_nil, Nat.reduceAdd, Nat.zero_add, List.range, List.range.loop]
    refine Lo.pu (Pu.move (v := .int .i64 ((N1 + N2 : Nat) : Int)) rfl (by simp [ev_put_ne, ev_put_eq, ev_const, ev_put_none, sz_put, hs, h00])) rfl rfl (by decide) ?_
    simp only [List.getElem_toArray, List.getElem_cons_succ, List.getElem_cons_zero, ev_put_none]
    have v0 := (k4.cell (World.block_lt_of_cell? _ _ u0)).trans u0
    have v1 := (k4.cell (World.block_lt_of_cell? _ _ u1)).trans u1
    refine Lo.load (A := ⟨g, 0, none⟩) (vs := [.slice a1 N1 c1, .slice a2 N2 c2]) rfl rfl (by decide) rfl (by simp [ev_put_ne, ev_put_eq, ev_const, ev_put_none, sz_put, hs, h00]) (.agg Try.underlying32 rfl Try.type32 rfl (by simp)) (cells2 v0 v1) ?_
    simp only [List.getElem_toArray, List.getElem_cons_succ, List.getElem_cons_zero, ev_put_none]
    refine Lo.call plainProg (f := 15) (vs := #[.agg #[.slice a1 N1 c1, .slice a2 N2 c2]]) rfl rfl (by decide) rfl Try.func15 (by kernel_rfl) (by kernel_rfl) (by kernel_rfl) (by simp [ev_put_ne, ev_put_eq, ev_const, ev_put_none, sz_put, hs, h00]) (sDeltaMany_any a1 a2 N1 c1 N2 c2 _ hN) (fun e w' h => ⟨_, h.1⟩) ?_
    rintro v w5 ⟨hv, k5⟩
    injection hv with hv
    subst hv
    simp only [List.getElem_toArray, List.getElem_cons_succ, List.getElem_cons_zero, ev_put_none]
    refine Lo.pu (Pu.bin (m := ((N1 + N2 : Nat) : Int)) (l := ((N1 + N2 : Nat) : Int)) (v := .bool false) rfl (by simp [ev_put_ne, ev_put_eq, ev_const, ev_put_none, sz_put, hs, h00]) (by simp [ev_put_ne, ev_put_eq, ev_const, ev_put_none, sz_put, hs, h00]) (by rw [bin_neq]; simp)) rfl rfl (by decide) ?_
    simp only [List.getElem_toArray, List.getElem_cons_succ, List.getElem_cons_zero, ev_put_none]
    refine Lo.ctl rfl (fun _ => stepG_region_end) ?_
    refine Lo.ctl rfl (fun _ => stepG_cond (t := false) (by simp [ev_put_ne, ev_put_eq, ev_const, ev_put_none, sz_put, hs, h00])) ?_
    simp only [if_false, Bool.false_eq_true]
    refine Lo.ctl rfl (fun _ => stepG_skip) ?_
    refine Lo.ctl rfl (fun _ => stepG_seq) ?_
    refine Lo.ctl rfl (fun _ => stepG_region) ?_
    simp only [List.size_toArray, List.length_cons, List.length_nil, Nat.reduceAdd, Nat.zero_add, List.range, List.range.loop]
    have x0 := (k5.cell (World.block_lt_of_cell? _ _ v0)).trans v0
    have x1 := (k5.cell (World.block_lt_of_cell? _ _ v1)).trans v1
    refine Lo.load (A := ⟨g, 0, none⟩) (vs := [.slice a1 N1 c1, .slice a2 N2 c2]) rfl rfl (by decide) rfl (by simp [ev_put_ne, ev_put_eq, ev_const, ev_put_none, sz_put, hs, h00]) (.agg Try.underlying32 rfl Try.type32 rfl (by simp)) (cells2 x0 x1) ?_
    simp only [List.getElem_toArray, List.getElem_cons_succ, List.getElem_cons_zero, ev_put_none]
    have k35 : Below w3.heap.size w3 w5 := k4.trans (k5.mono k4.size)
    have q5 : Below w.heap.size w w5 := q3.trans (k35.mono q3.size)
    have DP : DataPre w5 (.slice a1 N1 c1) (.slice a2 N2 c2) N1 N2 D L := DP1 w5 (k3.trans (k35.mono (by omega)))
    refine Lo.enter (f := 16) (vs := #[.agg #[.slice a1 N1 c1, .slice a2 N2 c2]]) rfl rfl (by decide) rfl Try.func16 (by kernel_rfl) (by kernel_rfl) (by simp [ev_put_ne, ev_put_eq, ev_const, ev_put_none, sz_put, hs, h00]) ?_
    refine lo_mono (fun _ _ => .inl) (cut_go DP fun v w6 ao cp hv _ k6 => ?_)
    subst hv
    rw [Frame.finish_at]
    simp only [List.getElem?_toArray, List.getElem?_cons_succ, List.getElem?_cons_zero, Option.bind_some]
    exact tailL (g := g) (N1 := N1) (N2 := N2) (ao := ao) (a1 := a1) (a2 := a2) (cp := cp) (c1 := c1) (c2 := c2) hN ⟨by simp [sz_put, hs], by simpa [df_put] using hd, (by simp [ev_put_ne, ev_put_eq, ev_const, ev_put_none, sz_put, hs, h00]), (by simp [ev_put_ne, ev_put_eq, ev_const, ev_put_none, sz_put, hs, h00]), (by simp [ev_put_ne, ev_put_eq, ev_const, ev_put_none, sz_put, hs, h00])⟩ ((k6.cell (World.block_lt_of_cell? _ _ x0)).trans x0) ((k6.cell (World.block_lt_of_cell? _ _ x1)).trans x1) (q5.trans (k6.mono q5.size))
end Go.Proofs.Ytjkfnjjkjhggfaa
