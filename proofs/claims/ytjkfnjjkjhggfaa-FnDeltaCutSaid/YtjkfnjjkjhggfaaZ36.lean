/- A run that ends alone is a good run; a run that may end alone or start another one. A change that was drawn lies in memory; the law on counting, behind impl.DeltaCut. The law on counting behind impl.DeltaCut, and the law alone up to it. -/
import Derived.Test.YtjkfnjjkjhggfaaZ35
import Derived.Test.YtjkfnjjkjhggfaaZ19
set_option linter.unusedSimpArgs false
set_option linter.unusedVariables false
namespace Go.Proofs.Ytjkfnjjkjhggfaa
open Go.Conc

section
variable {P : Program} {Post : Value → World → Prop} {A B : Goroutine → World → Prop}
theorem goes_or : ∀ {n : Nat} {g : Goroutine} {w : World}, Goes P true Eq D0 (fun g w => A g w ∨ B g w) n g w → Goes P true Eq D0 A n g w ∨ Goes P true Eq D0 B n g w
  | 0, _, w, h => (h w rfl).imp (fun x _ e => e ▸ x) (fun x _ e => e ▸ x)
  | n + 1, g, w, .inl h => (h w rfl).imp (fun x => .inl fun _ e => e ▸ x) (fun x => .inl fun _ e => e ▸ x)
  | n + 1, g, w, .inr ⟨hs, h⟩ => by
    obtain ⟨g', w', es, e, d, k⟩ := goes_elim (h w rfl)
    rcases goes_or k with k | k
    · exact .inl (.inr ⟨hs, fun w1 e1 => by subst e1; rw [e]; exact ⟨d, k⟩⟩)
    · exact .inr (.inr ⟨hs, fun w1 e1 => by subst e1; rw [e]; exact ⟨d, k⟩⟩)
theorem goes_mono (hAB : ∀ g w, A g w → B g w) : ∀ {n : Nat} {g : Goroutine} {w : World}, Goes P true Eq D0 A n g w → Goes P true Eq D0 B n g w
  | 0, _, w, h => fun w1 e => hAB _ _ (h w1 e)
  | n + 1, g, w, .inl h => .inl fun w1 e => hAB _ _ (h w1 e)
  | n + 1, g, w, .inr ⟨hs, h⟩ => by
    obtain ⟨g', w', es, e, d, k⟩ := goes_elim (h w rfl)
    exact .inr ⟨hs, fun w1 e1 => by subst e1; rw [e]; exact ⟨d, goes_mono hAB k⟩⟩
theorem runT_solo_ended {a : Goroutine} {w w' : World} {o : Outcome} {es : Array Event} (h : stepG P true a w = .ended o w' es) : runT P (solo a w) 0 = (.ended o w', MemOp.ofEvents 0 a.frame.fn a.frame.place es) := by
  simp [runT, solo, Array.swapAt!, Array.swapAt, h, GStep.es]
/-- It ends alone. -/
theorem soloRet {n : Nat} {a : Goroutine} {w : World} (h : Goes P true Eq D0 (AtRet P Post) n a w) :
    ∃ N last o w' t', runNT P (N + 1) (solo a w) #[] = (.ended o w', t') ∧ runN P N (solo a w) = .next last ∧ step P last = .ended o w' ∧ Go.Conc.Good P Post last o w' t' := by
  obtain ⟨k, a₁, w₁, u, hrun, ⟨hs, v, es, hend, hpost⟩, hw, h0⟩ := solo_goes #[] h
  have hstep := (stepT_solo (P := P) (w := w₁) hs).trans (runT_solo_ended hend)
  have hg : ∀ op ∈ u ++ MemOp.ofEvents 0 a₁.frame.fn a₁.frame.place es, op.g = 0 := fun op hop => (Array.mem_append.1 hop).elim (h0 op) (ops0 _ _ _ op)
  refine ⟨k, solo a₁ w₁, .done v, w₁, u ++ MemOp.ofEvents 0 a₁.frame.fn a₁.frame.place es, ?_, ?_, ?_, v, rfl, hpost, ?_, ?_, ⟨?_, rfl⟩, ?_⟩
  · rw [runNT_add, hrun]
    simp only [runNT, hstep, Array.empty_append]
  · rw [← runNT_fst P k _ #[], hrun]
  · rw [step, hstep]
  · rintro said ⟨i, j, hij, ⟨x, y, hx, hy, _, _, _, _⟩, hn, _⟩
    obtain ⟨oi, hoi, _⟩ := touch_of hx
    obtain ⟨oj, hoj, _⟩ := touch_of hy
    exact hn (hb_po hij hoi hoj (by rw [hg oi (mem_of_getElem? hoi), hg oj (mem_of_getElem? hoj)]))
  · intro i g hgi hne _
    exfalso
    apply hne
    cases ho : (u ++ MemOp.ofEvents 0 a₁.frame.fn a₁.frame.place es)[i]? with
    | none => simp only [Trace.g?, ho, Option.map_none] at hgi; cases hgi
    | some op =>
      simp only [Trace.g?, ho, Option.map_some, Option.some.injEq] at hgi
      rw [← hgi]; exact hg op (mem_of_getElem? ho)
  · intro g hg'; simp [solo] at hg'
  · intro i g hgi hne
    match i, hgi, hne with
    | 0, _, hne => exact absurd rfl hne
    | i + 1, hgi, _ => simp [solo] at hgi
/-- Either. -/
theorem soloOrFork {a : Goroutine} {w : World} (h : Lo P (fun g w => AtGoO P Post g w ∨ AtRet P Post g w) a w) :
    ∃ N last o w' t', runNT P (N + 1) (solo a w) #[] = (.ended o w', t') ∧ runN P N (solo a w) = .next last ∧ step P last = .ended o w' ∧ Go.Conc.Good P Post last o w' t' := by
  obtain ⟨n, h⟩ := h
  rcases goes_or h with h | h
  · exact forkO h
  · exact soloRet h
theorem atRet_of {f : FuncId} {fn : Func} {t : Tmp} {a : Act} {todo : List Item} {w : World} (hd : a.defers = []) (hf : P.funcs[f]? = some fn) (hr : fn.results = #[.tmp t]) (hi : P.inits.idxOf? f = none) (hp : Post (a.tmps.getD t undef) w) :
    AtRet P Post (G { (base f).at a todo with mode := .returning } []) w := by
  have h1 := results_tmp hr a.tmps P w
  have h2 := events_results_tmp (P := P) (w := w) hr a.tmps #[]
  exact ⟨rfl, _, _, by simp only [G, stepG, unwind, doReturn, Frame.at, base, hd, hf]; simp [h1, h2, hi, GStep.after]; exact rfl, hp⟩
theorem wanted_of {ops : Array Oper} {op : Oper} {a : Act} {j t : Nat} {bb : Bool} (hg : op.guard = some (j, bb)) (hj : (ops[j]?).bind (·.dst) = some t) (he : a.eval (.tmp t) = .bool bb) (ht : t < a.tmps.size) : Region.wanted op (yielded ops a.tmps) = true := by
  have : a.tmps[t]? = some (.bool bb) := by
    rw [Array.getElem?_eq_getElem ht]
    simp only [Act.eval, Array.getD_eq_getD_getElem?, Array.getElem?_eq_getElem ht, Option.getD_some] at he
    rw [he]
  simp [Region.wanted, hg, yielded, hj, this]
end
end Go.Proofs.Ytjkfnjjkjhggfaa
set_option linter.unusedSimpArgs false
set_option linter.unusedVariables false
namespace Go.Proofs.Ytjkfnjjkjhggfaa
open Go.Conc Go.RowKit

theorem srcPre_of {w : World} {v : Value} {L : List Int} (h : It w v L) : SrcPre w v (L.map (.int .i64 ·)) := by
  obtain ⟨ao, cap, e, h1, h2, h3⟩ := h.1.ex
  subst e
  rcases h.2 with e | ⟨b, off, n, c, e⟩
  · injection e with e1 e2 e3
    exact .inl ⟨by rw [e1, e2, e3], by rw [List.length_eq_zero_iff.1 e2]; rfl⟩
  · injection e with e1 e2 e3
    subst e1
    refine .inr ⟨_, cap, by rw [List.length_map], fun j u hj => ?_, fun u hu => ?_⟩
    · obtain ⟨x, hx, rfl⟩ : ∃ x, L[j]? = some x ∧ Value.int .i64 x = u := by simpa using hj
      obtain ⟨b', off', e, hc⟩ := h3 j x hx
      injection e with e; injection e with e1 e2; subst e1; subst e2
      have := hc 0 (.int .i64 x) rfl
      rw [addr_add']
      simpa using this
    · obtain ⟨x, _, rfl⟩ := List.mem_map.1 hu
      rfl
theorem dataPre_of {w : World} {B : Nat} {s1 s2 : Value} {D : List Rg} {L : List Rt} (h1 : Own 62 w B s1 2 encRg D) (h2 : GLs shRi w s2 L) (hl : D.length ≤ 20 ∧ L.length ≤ 20) (hs : ∀ s ∈ L, SmRt s) : DataPre w s1 s2 D.length L.length D L := by
  have R := h1.rows (fun _ => rfl)
  refine ⟨?_, ?_, fun i hi => ?_, fun i hi => ?_, by omega, rfl, rfl⟩
  · obtain ⟨a, cp, e⟩ := h1.sl; exact ⟨a, cp, e⟩
  · obtain ⟨a, n, cp, rfl, hn, -, -⟩ := GLs.sl h2
    exact ⟨a, cp, by rw [hn.out]⟩
  · obtain ⟨ao, cap, rfl, h3, h4, h5⟩ := R.ex
    obtain ⟨b, off, rfl, hc⟩ := h5 i D[i] (List.getElem?_eq_getElem hi)
    refine ⟨_, cap, D[i].1, D[i].2, List.getElem?_eq_getElem hi, rfl, fun j u hj => ?_⟩
    rw [addr_add', addr_add']
    exact hc j u hj
  · obtain ⟨a, n, cp, rfl, hn, -, -⟩ := GLs.sl h2
    have hn' := hn.out
    subst hn'
    obtain ⟨b, off, rfl⟩ := GLs.adr h2 (by omega)
    obtain ⟨s, hs'⟩ : ∃ s, L[i]? = some s := ⟨_, List.getElem?_eq_getElem hi⟩
    have hm := hs s (List.mem_of_getElem? hs')
    obtain ⟨f, c, lk, P, M⟩ := s
    obtain ⟨a1, m1, c1, a2, m2, c2, ⟨e0, e1, e2, e3, e4⟩, i1, i2⟩ := Ris.at h2 hs'
    refine ⟨_, cp, f, c, _, lk, _, _, _, P, M, ⟨hs', rfl, rfl⟩, rfl, fun j u hj => ?_, srcPre_of i1, srcPre_of i2, by rw [List.length_map]; have := hm.2.2.2.1.1; dsimp only at this; omega, by rw [List.length_map]; have := hm.2.2.2.2; dsimp only at this; omega⟩
    rw [addr_add', addr_add']
    match j, hj with
    | 0, hj => cases hj; exact e0
    | 1, hj => cases hj; exact e1
    | 2, hj => cases hj; exact e2
    | 3, hj => cases hj; exact e3
    | 4, hj => cases hj; exact e4
noncomputable def bodyL : Code := Try.f4.body.getD .skip
noncomputable def codeD : Code := match bodyL with | .seq _ (.seq _ (.seq _ (.seq _ (.seq _ y)))) => y | _ => .skip
noncomputable def ops7L : Array Oper := match codeD with | .seq (.region _ o _) _ => o | _ => #[]
noncomputable def codeE : Code := match codeD with | .seq _ y => y | _ => .skip
section
variable {P : Program} {a : Act} {op : Oper}
theorem Pu.pick {c x y : Operand} {v : Value} (hop : op.op = .pick c x y) (hc : a.eval c = .bool true) (hx : a.eval x = v) : Pu P a op v := fun w => by
  unfold execOp
  simp [hop, hc, hx, asBool]
theorem bin_quo3 (t : TypeId) (m : Int) : binOp .quo t (.int .i64 m) (.int .i64 3) = Sem.pure (.int .i64 (IntKind.i64.wrap (m.tdiv 3))) := rfl
theorem bin_neq (t : TypeId) (m l : Int) : binOp .neq t (.int .i64 m) (.int .i64 l) = Sem.pure (.bool (m != l)) := rfl
end
end Go.Proofs.Ytjkfnjjkjhggfaa
set_option linter.unusedSimpArgs false
set_option linter.unusedVariables false
namespace Go.Proofs.Ytjkfnjjkjhggfaa
open Go.Conc Go.RowKit

/-- What the law says, and leaves. -/
abbrev PostL (w0 : World) (v : Value) (w : World) : Prop := v = .bool true ∧ Below w0.heap.size w0 w
section
variable {w0 w : World} {g N1 N2 : Nat} {s1 s2 : Value}
structure TL (a : Act) (g N : Nat) (v : Value) : Prop where
  size : a.tmps.size = 37
  defers : a.defers = []
  t3 : a.eval (.tmp 3) = .pointer (some ⟨g, 0, none⟩)
  t4 : a.eval (.tmp 4) = .int .i64 N
  t18 : a.eval (.tmp 18) = v
theorem at_below {w0 w : World} (h : Below w0.heap.size w0 w) (d : Nat) : Below w0.heap.size w0 (w.at d) := ⟨h.os, h.tape, h.output, h.size, h.block⟩
theorem evt2 (a : Act) {v : Value} (h : 2 < a.tmps.size) : (a.put (some 2) v).tmps.getD 2 undef = v := @ev_put_eq a 2 v h
set_option maxHeartbeats 4000000 in
theorem tailL {a : Act} (hN : N1 + N2 ≤ 1000000) {ao a1 a2 : Option Addr} {cp c1 c2 : Nat} (S : TL a g (N1 + N2) (.slice ao ((N1 + N2 + 2) / 3) cp)) (h0 : w.cell? ⟨g, 0, none⟩ = some (.slice a1 N1 c1)) (h1 : w.cell? ⟨g, 1, none⟩ = some (.slice a2 N2 c2)) (hb : Below w0.heap.size w0 w) :
    RetO Try.prog (PostL w0) (G ((base 4).at a (.inRegion ops7L [2] :: [.code codeE])) []) w := by
  have e : codeE = codeE := rfl
  conv at e => rhs; simp only [codeE, codeD, bodyL, Try.f4, Option.getD_some]
  rw [e]
  clear e
  have e : ops7L = ops7L := rfl
  conv at e => rhs; simp only [ops7L, codeD, bodyL, Try.f4, Option.getD_some]
  rw [e]
  clear e
  have hw1 : IntKind.i64.wrap ((N1 : Int) + (N2 : Int)) = ((N1 + N2 : Nat) : Int) := by rw [IntWalk.i64_in _ (by omega)]; omega
  obtain ⟨N, hNe⟩ : ∃ N, N1 + N2 = N := ⟨_, rfl⟩
  rw [hNe] at S hw1 hN
  have hw2 : IntKind.i64.wrap ((N : Int) + 3) = ((N + 3 : Nat) : Int) := by rw [IntWalk.i64_in _ (by omega)]; omega
  have hw3 : IntKind.i64.wrap (((N + 3 : Nat) : Int) - 1) = ((N + 2 : Nat) : Int) := by rw [IntWalk.i64_in _ (by omega)]; omega
  have hw4 : IntKind.i64.wrap ((((N + 2 : Nat) : Int)).tdiv 3) = (((N + 2) / 3 : Nat) : Int) := by
    have : (((N + 2 : Nat) : Int)).tdiv 3 = (((N + 2) / 3 : Nat) : Int) := by rw [Int.tdiv_eq_ediv_of_nonneg (by omega)]; omega
    rw [this, IntWalk.i64_in _ (by omega)]
  refine RetO.pu (Pu.assign (v := .slice ao ((N + 2) / 3) cp) rfl (by simp [ev_put_ne, ev_put_eq, ev_const, sz_put, S.size, S.t3, S.t4, S.t18])) rfl rfl (by decide) ?_
  simp only [List.getElem_toArray, List.getElem_cons_succ, List.getElem_cons_zero, ev_put_none]
  refine RetO.ctl rfl (fun _ => stepG_region_end) ?_
  refine RetO.ctl rfl (fun _ => stepG_seq) ?_
  refine RetO.ctl rfl (fun _ => stepG_region) ?_
  simp only [List.size_toArray, List.length_cons, List.length_nil, Nat.reduceAdd, Nat.zero_add, List.range, List.range.loop]
  refine RetO.pu (Pu.move (v := .int .i64 N) rfl (by simp [ev_put_ne, ev_put_eq, ev_const, sz_put, S.size, S.t3, S.t4, S.t18])) rfl rfl (by decide) ?_
  simp only [List.getElem_toArray, List.getElem_cons_succ, List.getElem_cons_zero, ev_put_none]
  refine RetO.pu (pu_f0 (g := g) rfl (by simp [ev_put_ne, ev_put_eq, ev_const, sz_put, S.size, S.t3, S.t4, S.t18])) rfl rfl (by decide) ?_
  simp only [List.getElem_toArray, List.getElem_cons_succ, List.getElem_cons_zero, ev_put_none]
  refine RetO.load (A := ⟨g, 0, none⟩) (vs := [.slice a1 N1 c1]) rfl rfl (by decide) rfl (by simp [ev_put_ne, ev_put_eq, ev_const, sz_put, S.size, S.t3, S.t4, S.t18]) (.one Try.underlying29 rfl) (fun j u hj => by
    match j, hj with
    | 0, hj => cases hj; exact h0) ?_
  simp only [List.getElem_toArray, List.getElem_cons_succ, List.getElem_cons_zero, ev_put_none]
  refine RetO.pu (Pu.len (ao := a1) (m := N1) (cp := c1) rfl Try.underlying29 (by simp [ev_put_ne, ev_put_eq, ev_const, sz_put, S.size, S.t3, S.t4, S.t18])) rfl rfl (by decide) ?_
  simp only [List.getElem_toArray, List.getElem_cons_succ, List.getElem_cons_zero, ev_put_none]
  refine RetO.pu (pu_f1 (g := g) rfl (by simp [ev_put_ne, ev_put_eq, ev_const, sz_put, S.size, S.t3, S.t4, S.t18])) rfl rfl (by decide) ?_
  simp only [List.getElem_toArray, List.getElem_cons_succ, List.getElem_cons_zero, ev_put_none]
  refine RetO.load (A := ⟨g, 1, none⟩) (vs := [.slice a2 N2 c2]) rfl rfl (by decide) rfl (by simp [ev_put_ne, ev_put_eq, ev_const, sz_put, S.size, S.t3, S.t4, S.t18]) (.one Try.underlying30 rfl) (fun j u hj => by
    match j, hj with
    | 0, hj => cases hj; exact h1) ?_
  simp only [List.getElem_toArray, List.getElem_cons_succ, List.getElem_cons_zero, ev_put_none]
  refine RetO.pu (Pu.len (ao := a2) (m := N2) (cp := c2) rfl Try.underlying30 (by simp [ev_put_ne, ev_put_eq, ev_const, sz_put, S.size, S.t3, S.t4, S.t18])) rfl rfl (by decide) ?_
  simp only [List.getElem_toArray, List.getElem_cons_succ, List.getElem_cons_zero, ev_put_none]
  refine RetO.pu (Pu.bin (m := N1) (l := N2) (v := .int .i64 N) rfl (by simp [ev_put_ne, ev_put_eq, ev_const, sz_put, S.size, S.t3, S.t4, S.t18]) (by simp [ev_put_ne, ev_put_eq, ev_const, sz_put, S.size, S.t3, S.t4, S.t18]) (by rw [bin_add, hw1])) rfl rfl (by decide) ?_
  simp only [List.getElem_toArray, List.getElem_cons_succ, List.getElem_cons_zero, ev_put_none]
  refine RetO.pu (Pu.bin (m := N) (l := N) (v := .bool true) rfl (by simp [ev_put_ne, ev_put_eq, ev_const, sz_put, S.size, S.t3, S.t4, S.t18]) (by simp [ev_put_ne, ev_put_eq, ev_const, sz_put, S.size, S.t3, S.t4, S.t18]) (by rw [bin_eql]; simp)) rfl rfl (by decide) ?_
  simp only [List.getElem_toArray, List.getElem_cons_succ, List.getElem_cons_zero, ev_put_none]
  refine RetO.pu (Pu.move (v := .bool true) rfl (by simp [ev_put_ne, ev_put_eq, ev_const, sz_put, S.size, S.t3, S.t4, S.t18])) rfl rfl (by decide) ?_
  simp only [List.getElem_toArray, List.getElem_cons_succ, List.getElem_cons_zero, ev_put_none]
  refine RetO.pu (Pu.move (v := .slice ao ((N + 2) / 3) cp) rfl (by simp [ev_put_ne, ev_put_eq, ev_const, sz_put, S.size, S.t3, S.t4, S.t18])) rfl (wanted_of rfl rfl (by simp [ev_put_ne, ev_put_eq, ev_const, sz_put, S.size, S.t3, S.t4, S.t18]) (by simp [sz_put, S.size])) (by decide) ?_
  simp only [List.getElem_toArray, List.getElem_cons_succ, List.getElem_cons_zero, ev_put_none]
  refine RetO.pu (Pu.len (ao := ao) (m := (N + 2) / 3) (cp := cp) rfl Try.underlying35 (by simp [ev_put_ne, ev_put_eq, ev_const, sz_put, S.size, S.t3, S.t4, S.t18])) rfl (wanted_of rfl rfl (by simp [ev_put_ne, ev_put_eq, ev_const, sz_put, S.size, S.t3, S.t4, S.t18]) (by simp [sz_put, S.size])) (by decide) ?_
  simp only [List.getElem_toArray, List.getElem_cons_succ, List.getElem_cons_zero, ev_put_none]
  refine RetO.pu (Pu.move (v := .int .i64 N) rfl (by simp [ev_put_ne, ev_put_eq, ev_const, sz_put, S.size, S.t3, S.t4, S.t18])) rfl (wanted_of rfl rfl (by simp [ev_put_ne, ev_put_eq, ev_const, sz_put, S.size, S.t3, S.t4, S.t18]) (by simp [sz_put, S.size])) (by decide) ?_
  simp only [List.getElem_toArray, List.getElem_cons_succ, List.getElem_cons_zero, ev_put_none]
  refine RetO.pu (Pu.bin (m := N) (l := 3) (v := .int .i64 ((N + 3 : Nat) : Int)) rfl (by simp [ev_put_ne, ev_put_eq, ev_const, sz_put, S.size, S.t3, S.t4, S.t18]) (by simp [ev_put_ne, ev_put_eq, ev_const, sz_put, S.size, S.t3, S.t4, S.t18]) (by rw [bin_add, hw2])) rfl (wanted_of rfl rfl (by simp [ev_put_ne, ev_put_eq, ev_const, sz_put, S.size, S.t3, S.t4, S.t18]) (by simp [sz_put, S.size])) (by decide) ?_
  simp only [List.getElem_toArray, List.getElem_cons_succ, List.getElem_cons_zero, ev_put_none]
  refine RetO.pu (Pu.bin (m := ((N + 3 : Nat) : Int)) (l := 1) (v := .int .i64 ((N + 2 : Nat) : Int)) rfl (by simp [ev_put_ne, ev_put_eq, ev_const, sz_put, S.size, S.t3, S.t4, S.t18]) (by simp [ev_put_ne, ev_put_eq, ev_const, sz_put, S.size, S.t3, S.t4, S.t18]) (by rw [bin_sub, hw3])) rfl (wanted_of rfl rfl (by simp [ev_put_ne, ev_put_eq, ev_const, sz_put, S.size, S.t3, S.t4, S.t18]) (by simp [sz_put, S.size])) (by decide) ?_
  simp only [List.getElem_toArray, List.getElem_cons_succ, List.getElem_cons_zero, ev_put_none]
  refine RetO.pu (Pu.bin (m := ((N + 2 : Nat) : Int)) (l := 3) (v := .int .i64 (((N + 2) / 3 : Nat) : Int)) rfl (by simp [ev_put_ne, ev_put_eq, ev_const, sz_put, S.size, S.t3, S.t4, S.t18]) (by simp [ev_put_ne, ev_put_eq, ev_const, sz_put, S.size, S.t3, S.t4, S.t18]) (by rw [bin_quo3, hw4])) rfl (wanted_of rfl rfl (by simp [ev_put_ne, ev_put_eq, ev_const, sz_put, S.size, S.t3, S.t4, S.t18]) (by simp [sz_put, S.size])) (by decide) ?_
  simp only [List.getElem_toArray, List.getElem_cons_succ, List.getElem_cons_zero, ev_put_none]
  refine RetO.pu (Pu.bin (m := (((N + 2) / 3 : Nat) : Int)) (l := (((N + 2) / 3 : Nat) : Int)) (v := .bool true) rfl (by simp [ev_put_ne, ev_put_eq, ev_const, sz_put, S.size, S.t3, S.t4, S.t18]) (by simp [ev_put_ne, ev_put_eq, ev_const, sz_put, S.size, S.t3, S.t4, S.t18]) (by rw [bin_eql]; simp)) rfl (wanted_of rfl rfl (by simp [ev_put_ne, ev_put_eq, ev_const, sz_put, S.size, S.t3, S.t4, S.t18]) (by simp [sz_put, S.size])) (by decide) ?_
  simp only [List.getElem_toArray, List.getElem_cons_succ, List.getElem_cons_zero, ev_put_none]
  refine RetO.pu (Pu.pick (v := .bool true) rfl (by simp [ev_put_ne, ev_put_eq, ev_const, sz_put, S.size, S.t3, S.t4, S.t18]) (by simp [ev_put_ne, ev_put_eq, ev_const, sz_put, S.size, S.t3, S.t4, S.t18])) rfl rfl (by decide) ?_
  simp only [List.getElem_toArray, List.getElem_cons_succ, List.getElem_cons_zero, ev_put_none]
  refine RetO.pu (Pu.assign (v := .bool true) rfl (by simp [ev_put_ne, ev_put_eq, ev_const, sz_put, S.size, S.t3, S.t4, S.t18])) rfl rfl (by decide) ?_
  simp only [List.getElem_toArray, List.getElem_cons_succ, List.getElem_cons_zero, ev_put_none]
  refine RetO.ctl rfl (fun _ => stepG_region_end) ?_
  refine RetO.ctl rfl (fun _ => stepG_ret') ?_
  refine GoI.stop rfl fun d => ?_
  exact atRet_of (by simp [df_put, S.defers]) Try.func4 rfl (by kernel_rfl) ⟨evt2 _ (by simp [sz_put, S.size]), at_below hb d⟩
end
end Go.Proofs.Ytjkfnjjkjhggfaa
