/- The worker of impl.DeltaCut: where it stands, what it knows; from the loop's head to behind the round's append, where a range is appended. -/
import Derived.Test.YtjkfnjjkjhggfaaZ27
set_option linter.unusedSimpArgs false
set_option linter.unusedVariables false
namespace Go.Proofs.Ytjkfnjjkjhggfaa
open Go.Conc Go.RowKit

theorem pu_f0 {a : Act} {op : Oper} {x : Operand} {g : Nat} (hop : op.op = .fieldAddr 32 x 0) (hx : a.eval x = .pointer (some ⟨g, 0, none⟩)) : Pu Try.prog a op (.pointer (some ⟨g, 0, none⟩)) := by
  refine Pu.field (A := ⟨g, 0, none⟩) (inf := Try.t29) hop Try.underlying32 rfl Try.type29 ?_ hx
  decide
theorem pu_f1 {a : Act} {op : Oper} {x : Operand} {g : Nat} (hop : op.op = .fieldAddr 32 x 1) (hx : a.eval x = .pointer (some ⟨g, 0, none⟩)) : Pu Try.prog a op (.pointer (some ⟨g, 1, none⟩)) := by
  refine Pu.field (A := ⟨g, 0, none⟩) (inf := Try.t30) hop Try.underlying32 rfl Try.type30 ?_ hx
  decide
noncomputable def bodyW : Code := Try.f34.body.getD .skip
noncomputable def loopW : Code := match bodyW with | .seq _ (.seq _ (.seq (.seq _ (.block _ (.loop y))) _)) => y | _ => .skip
noncomputable def tailW : Code := match bodyW with | .seq _ (.seq _ (.seq _ r)) => r | _ => .skip
noncomputable def restW : Code := match loopW with | .seq _ (.seq _ (.seq (.block _ (.seq _ (.seq _ r))) _)) => r | _ => .skip
noncomputable def incW : Code := match loopW with | .seq _ (.seq _ (.seq _ r)) => r | _ => .skip
noncomputable def botW : Frame := { (default : Frame) with fn := Try.prog.funcs.size, defers := [], mode := .panicking [goexitEntry] }
def SrcOld (nf c : Nat) (w0 : World) (s : Value) (xs : List Value) : Prop :=
  (s = .slice none 0 0 ∧ xs = []) ∨ ∃ ad cp, s = .slice (some ad) xs.length cp ∧ (∀ j u, xs[j]? = some u → Cko nf c w0 (ad.add j) u) ∧ ∀ u ∈ xs, u.oneCell' = true
theorem SrcOld.src {nf c : Nat} {me : Bool} {w0 w : World} {o : Who} {s : Value} {xs : List Value} (h : SrcOld nf c w0 s xs) (hO : OldO nf c w0 w) : SrcO nf c me w o s xs :=
  h.imp id fun ⟨ad, cp, h1, h2, h3⟩ => ⟨ad, cp, h1, fun j u hj => (h2 j u hj).ck hO, h3⟩
/-- The change that is cut: so many ranges, so many routes. -/
structure DataO (nf c : Nat) (w0 : World) (bm bd : Nat) (s1 s2 : Value) (N1 N2 : Nat) (Ds : List (Int × Int)) (Ls : List (Int × Int × Int × List Int × List Int)) : Prop where
  cn : c < nf
  box : ∀ i v, #[s1, s2][i]? = some v → Cko nf c w0 ⟨bd, i, none⟩ v
  msg : Cko nf c w0 ⟨bm, 0, none⟩ (.chan (some c))
  sh1 : ∃ a cp, s1 = .slice a N1 cp
  sh2 : ∃ a cp, s2 = .slice a N2 cp
  drop : ∀ i, i < N1 → ∃ ad cp f b, Ds[i]? = some (f, b) ∧ s1 = .slice (some ad) N1 cp ∧ ∀ j u, [Value.int .i64 f, .int .i64 b][j]? = some u → Cko nf c w0 ((ad.add (i * 2)).add j) u
  tell : ∀ i, i < N2 → ∃ ad cp f b p l q A B A' B', (Ls[i]? = some (f, b, l, A', B') ∧ A = A'.map (Value.int .i64) ∧ B = B'.map (Value.int .i64)) ∧ s2 = .slice (some ad) N2 cp ∧ (∀ j u, [Value.int .i64 f, .int .i64 b, p, .int .i64 l, q][j]? = some u → Cko nf c w0 ((ad.add (i * 5)).add j) u) ∧
    SrcOld nf c w0 p A ∧ SrcOld nf c w0 q B ∧ A.length ≤ 1000000 ∧ B.length ≤ 1000000
  few : N1 + N2 ≤ 1000000
  l1 : Ds.length = N1
  l2 : Ls.length = N2
/-- The deferred close. -/
def dclose (c : Nat) : Deferred := { target := .builtin .close #[60] 0 #[false], args := #[.chan (some c)] }
/-- Its slots, k rounds made. -/
structure SlotsW (a : Act) (c bm bd kn N k : Nat) : Prop where
  size : a.tmps.size = 52
  defers : ∃ ty cs, a.defers = [{ target := .builtin .close #[60] ty cs, args := #[.chan (some c)] }]
  t0 : a.eval (.tmp 0) = .pointer (some ⟨bm, 0, none⟩)
  t1 : a.eval (.tmp 1) = .pointer (some ⟨bd, 0, none⟩)
  t2 : a.eval (.tmp 2) = .pointer (some ⟨kn, 0, none⟩)
  t6 : a.eval (.tmp 6) = .int .i64 N
  t7 : a.eval (.tmp 7) = .int .i64 k
/-- Blocks that stand, and what they hold. -/
def KnM (nf c : Nat) (w : World) (o : Who) (M : List (Nat × Obj)) : Prop := ∀ p ∈ M, Kn nf c false w o p.1 p.2
def HasM (M : List (Nat × Obj)) (w : World) : Prop := ∀ p ∈ M, w.heap[p.1]? = some p.2
/-- .. none of which is written. -/
def Off (M : List (Nat × Obj)) (kn : Nat) (v1 v2 : Value) : Prop := ∀ p ∈ M, p.1 ≠ kn ∧ v1.ownBlock ≠ some p.1 ∧ v2.ownBlock ≠ some p.1
theorem KnM.rx {nf c : Nat} {w w1 : World} {o o1 : Who} {M : List (Nat × Obj)} {x : Option Nat} (h : KnM nf c w o M) (r : RX nf c false x w o w1 o1) (hx : ∀ p ∈ M, some p.1 ≠ x) : KnM nf c w1 o1 M := fun p hp => (h p hp).rx r (hx p hp)
theorem KnM.has {nf c : Nat} {w : World} {o : Who} {M : List (Nat × Obj)} (h : KnM nf c w o M) : HasM M w := fun p hp => (h p hp).eq
theorem KnM.app {nf c : Nat} {w : World} {o : Who} {M M' : List (Nat × Obj)} (h : KnM nf c w o M) (h' : KnM nf c w o M') : KnM nf c w o (M ++ M') := fun p hp => (List.mem_append.1 hp).elim (h p) (h' p)
theorem HasM.app {w : World} {M M' : List (Nat × Obj)} (h : HasM (M ++ M') w) : HasM M w ∧ HasM M' w := ⟨fun p hp => h p (List.mem_append_left _ hp), fun p hp => h p (List.mem_append_right _ hp)⟩
theorem HasM.sub {w : World} {M M' : List (Nat × Obj)} (h : HasM M' w) (hs : ∀ p ∈ M, p ∈ M') : HasM M w := fun p hp => h p (hs p hp)
theorem Off.turn1 {nf c kn : Nat} {w : World} {o : Who} {M : List (Nat × Obj)} {v1 v1' v2 : Value} (h : Off M kn v1 v2) (hK : KnM nf c w o M) (hf : v1'.ownBlock = v1.ownBlock ∨ ∀ g, v1'.ownBlock = some g → w.heap.size ≤ g) : Off M kn v1' v2 := fun p hp => by
  refine ⟨(h p hp).1, fun e => ?_, (h p hp).2.2⟩
  rcases hf with hf | hf
  · exact (h p hp).2.1 (hf ▸ e)
  · have := hf _ e; have := (hK p hp).lt; omega
theorem Off.turn2 {nf c kn : Nat} {w : World} {o : Who} {M : List (Nat × Obj)} {v1 v2 v2' : Value} (h : Off M kn v1 v2) (hK : KnM nf c w o M) (hf : v2'.ownBlock = v2.ownBlock ∨ ∀ g, v2'.ownBlock = some g → w.heap.size ≤ g) : Off M kn v1 v2' := fun p hp => by
  refine ⟨(h p hp).1, (h p hp).2.1, fun e => ?_⟩
  rcases hf with hf | hf
  · exact (h p hp).2.2 (hf ▸ e)
  · have := hf _ e; have := (hK p hp).lt; omega
theorem Off.fresh {kn n : Nat} {M M' : List (Nat × Obj)} {v1 v2 : Value} (h : Off M kn v1 v2) (hk : kn < n) (h1 : ∀ g, v1.ownBlock = some g → g < n) (h2 : ∀ g, v2.ownBlock = some g → g < n) (hM : ∀ p ∈ M', n ≤ p.1) : Off (M ++ M') kn v1 v2 := fun p hp => by
  rcases List.mem_append.1 hp with hp | hp
  · exact h p hp
  · have := hM p hp
    exact ⟨by omega, fun e => by have := h1 _ e; omega, fun e => by have := h2 _ e; omega⟩
/-- A row of one's own: the block it lies in tells it. -/
theorem OwnO.kn {nf c : Nat} (hcn : c < nf) {w : World} {o : Who} {E : TypeId} {sz n : Nat} {v : Value} {xs : List Value} (h : OwnO nf false w o E sz v n xs) :
    ∃ M, KnM nf c w o M ∧ (∀ p ∈ M, v.ownBlock = some p.1) ∧ ∀ w', HasM M w' → w'.ownsRow nf E sz v n xs := by
  have hm := h.mine
  obtain ⟨h0, ⟨rfl, e⟩ | ⟨g, cap, cur, rfl, h1, h2, h3⟩⟩ := h.row
  · exact ⟨[], fun p hp => (by cases hp), fun p hp => (by cases hp), fun w' _ => ⟨h0, .inl ⟨rfl, e⟩⟩⟩
  · refine ⟨[(g, _)], fun p hp => ?_, fun p hp => ?_, fun w' hw => ⟨h0, .inr ⟨g, cap, cur, rfl, h1, hw _ (List.mem_cons_self ..), h3⟩⟩⟩
    · obtain rfl := List.mem_singleton.1 hp
      exact ⟨(World.ownsRow.lt h.row g rfl).2, by dsimp only; omega, .inr (hm g rfl), h2⟩
    · obtain rfl := List.mem_singleton.1 hp
      rfl
/-- The change under way: its two rows, and what stands. -/
structure NowV (nf c : Nat) (w0 w : World) (o : Who) (kn : Nat) (n1 n2 : Nat) (v1 v2 : Value) (xs1 xs2 : List Value) (M : List (Nat × Obj)) : Prop where
  old : OldO nf c w0 w
  nk : nf ≤ kn
  mine : o kn = false
  K : Kn nf c false w o kn (.cells #[v1, v2] 32)
  h1 : OwnO nf false w o 62 2 v1 n1 xs1
  h2 : OwnO nf false w o 64 5 v2 n2 xs2
  kM : KnM nf c w o M
  nM : Off M kn v1 v2
abbrev Ctn := List Value → List Value → List (Nat × Obj) → Prop
/-- The change under way: so many ranges, so many routes; C tells what they are. -/
def NowW (nf c : Nat) (w0 w : World) (o : Who) (kn : Nat) (n1 n2 : Nat) (C : Ctn) : Prop := ∃ v1 v2 xs1 xs2 M, NowV nf c w0 w o kn n1 n2 v1 v2 xs1 xs2 M ∧ C xs1 xs2 M
theorem NowW.old {nf c kn n1 n2 : Nat} {w0 w : World} {o : Who} {C : Ctn} (h : NowW nf c w0 w o kn n1 n2 C) : OldO nf c w0 w := let ⟨_, _, _, _, _, h, _⟩ := h; h.old
theorem own_neO {nf : Nat} {w : World} {o : Who} {E sz n g : Nat} {v : Value} {xs : List Value} {cs : Array Value} {E' : TypeId} {fz : Nat × Nat} (h : OwnO nf false w o E sz v n xs) (hg : v.ownBlock = some g) (hk : w.heap[g]? = some (.cells cs E' fz)) (hE : E ≠ E') : False := by
  rcases h.row.2 with ⟨rfl, _⟩ | ⟨g', cap, cur, rfl, _, hc, _⟩
  · cases hg
  · cases hg; rw [hc] at hk; cases hk; exact hE rfl
theorem own_own {nf : Nat} {w : World} {o : Who} {E sz n E' sz' n' g : Nat} {v v' : Value} {xs xs' : List Value} (h : OwnO nf false w o E sz v n xs) (h' : OwnO nf false w o E' sz' v' n' xs') (hg : v.ownBlock = some g) (hg' : v'.ownBlock = some g) (hE : E ≠ E') : False := by
  rcases h'.row.2 with ⟨rfl, _⟩ | ⟨g', cap, cur, rfl, _, hc, _⟩
  · cases hg'
  · cases hg'; exact own_neO h hg hc hE
theorem round_drop {nf c bm bd kn N k n1 n2 N1 N2 : Nat} {w0 w : World} {o : Who} {s1 s2 : Value} {Ds : List (Int × Int)} {Ls : List (Int × Int × Int × List Int × List Int)} {C C' : Ctn} (D : DataO nf c w0 bm bd s1 s2 N1 N2 Ds Ls) {a : Act} (S : SlotsW a c bm bd kn N k) (W : NowW nf c w0 w o kn n1 n2 C) (hN : N = N1 + N2) (hk : k < N1) (hn1 : n1 ≤ 3)
    (hC2 : ∀ xs1 xs2 M f b, Ds[k]? = some (f, b) → C xs1 xs2 M → C' (xs1 ++ [.int .i64 f, .int .i64 b]) xs2 M) :
    Seg Try.prog nf c false (fun g' w' o' => ∃ a', g' = G ((baseD 34).at a' [.code restW, .inBlock 1, .code incW, .inLoop loopW, .inBlock 0, .code tailW]) [botW] ∧ SlotsW a' c bm bd kn N k ∧ NowW nf c w0 w' o' kn (n1 + 1) n2 C')
      2000 (G ((baseD 34).at a [.code loopW, .inLoop loopW, .inBlock 0, .code tailW]) [botW]) w o := by
  obtain ⟨v1, v2, xs1, xs2, M, W, hC⟩ := W
  generalize hL : Item.inLoop loopW = IL
  simp only [loopW, bodyW, Try.f34, Option.getD_some]
  first
  | refine Seg.ctl rfl (fun _ => stepG_seq) ?_
  | refine Seg.ctl rfl (fun _ => stepG_region_end) ?_
  | (refine Seg.ctl rfl (fun _ => stepG_region) ?_; simp only [List.size_toArray, List.length_cons, List.length_nil, Nat.reduceAdd, Nat.zero_add, List.range, List.range.loop])
  | refine Seg.ctl rfl (fun _ => stepG_block) ?_
  | refine Seg.ctl rfl (fun _ => stepG_inBlock) ?_
  | refine Seg.ctl rfl (fun _ => stepG_ret') ?_
  | refine Seg.ctl rfl (fun _ => stepG_loop) ?_
  | refine Seg.ctl rfl (fun _ => stepG_inLoop) ?_
  | refine Seg.ctl rfl (fun _ => stepG_skip) ?_
  first
  | refine Seg.ctl rfl (fun _ => stepG_seq) ?_
  | refine Seg.ctl rfl (fun _ => stepG_region_end) ?_
  | (refine Seg.ctl rfl (fun _ => stepG_region) ?_; simp only [List.size_toArray, List.length_cons, List.length_nil, Nat.reduceAdd, Nat.zero_add, List.range, List.range.loop])
  | refine Seg.ctl rfl (fun _ => stepG_block) ?_
  | refine Seg.ctl rfl (fun _ => stepG_inBlock) ?_
  | refine Seg.ctl rfl (fun _ => stepG_ret') ?_
  | refine Seg.ctl rfl (fun _ => stepG_loop) ?_
  | refine Seg.ctl rfl (fun _ => stepG_inLoop) ?_
  | refine Seg.ctl rfl (fun _ => stepG_skip) ?_
  refine Seg.pu (Pu.bin (v := .bool true) (m := k) (l := N) rfl (by simp [ev_put_ne, ev_put_eq, ev_const, sz_put, S.size, S.t0, S.t1, S.t2, S.t6, S.t7]) (by simp [ev_put_ne, ev_put_eq, ev_const, sz_put, S.size, S.t0, S.t1, S.t2, S.t6, S.t7]) (by rw [bin_lss, decide_eq_true]; omega)) rfl rfl (by decide) ?_
  simp only [List.getElem_toArray, List.getElem_cons_succ, List.getElem_cons_zero, ev_put_none]
  first
  | refine Seg.ctl rfl (fun _ => stepG_seq) ?_
  | refine Seg.ctl rfl (fun _ => stepG_region_end) ?_
  | (refine Seg.ctl rfl (fun _ => stepG_region) ?_; simp only [List.size_toArray, List.length_cons, List.length_nil, Nat.reduceAdd, Nat.zero_add, List.range, List.range.loop])
  | refine Seg.ctl rfl (fun _ => stepG_block) ?_
  | refine Seg.ctl rfl (fun _ => stepG_inBlock) ?_
  | refine Seg.ctl rfl (fun _ => stepG_ret') ?_
  | refine Seg.ctl rfl (fun _ => stepG_loop) ?_
  | refine Seg.ctl rfl (fun _ => stepG_inLoop) ?_
  | refine Seg.ctl rfl (fun _ => stepG_skip) ?_
  first
  | refine Seg.ctl rfl (fun _ => stepG_seq) ?_
  | refine Seg.ctl rfl (fun _ => stepG_region_end) ?_
  | (refine Seg.ctl rfl (fun _ => stepG_region) ?_; simp only [List.size_toArray, List.length_cons, List.length_nil, Nat.reduceAdd, Nat.zero_add, List.range, List.range.loop])
  | refine Seg.ctl rfl (fun _ => stepG_block) ?_
  | refine Seg.ctl rfl (fun _ => stepG_inBlock) ?_
  | refine Seg.ctl rfl (fun _ => stepG_ret') ?_
  | refine Seg.ctl rfl (fun _ => stepG_loop) ?_
  | refine Seg.ctl rfl (fun _ => stepG_inLoop) ?_
  | refine Seg.ctl rfl (fun _ => stepG_skip) ?_
  refine Seg.ctl rfl (fun _ => stepG_cond (t := true) (by simp [ev_put_ne, ev_put_eq, ev_const, sz_put, S.size, S.t0, S.t1, S.t2, S.t6, S.t7])) ?_
  simp only [if_true]
  first
  | refine Seg.ctl rfl (fun _ => stepG_seq) ?_
  | refine Seg.ctl rfl (fun _ => stepG_region_end) ?_
  | (refine Seg.ctl rfl (fun _ => stepG_region) ?_; simp only [List.size_toArray, List.length_cons, List.length_nil, Nat.reduceAdd, Nat.zero_add, List.range, List.range.loop])
  | refine Seg.ctl rfl (fun _ => stepG_block) ?_
  | refine Seg.ctl rfl (fun _ => stepG_inBlock) ?_
  | refine Seg.ctl rfl (fun _ => stepG_ret') ?_
  | refine Seg.ctl rfl (fun _ => stepG_loop) ?_
  | refine Seg.ctl rfl (fun _ => stepG_inLoop) ?_
  | refine Seg.ctl rfl (fun _ => stepG_skip) ?_
  first
  | refine Seg.ctl rfl (fun _ => stepG_seq) ?_
  | refine Seg.ctl rfl (fun _ => stepG_region_end) ?_
  | (refine Seg.ctl rfl (fun _ => stepG_region) ?_; simp only [List.size_toArray, List.length_cons, List.length_nil, Nat.reduceAdd, Nat.zero_add, List.range, List.range.loop])
  | refine Seg.ctl rfl (fun _ => stepG_block) ?_
  | refine Seg.ctl rfl (fun _ => stepG_inBlock) ?_
  | refine Seg.ctl rfl (fun _ => stepG_ret') ?_
  | refine Seg.ctl rfl (fun _ => stepG_loop) ?_
  | refine Seg.ctl rfl (fun _ => stepG_inLoop) ?_
  | refine Seg.ctl rfl (fun _ => stepG_skip) ?_
  first
  | refine Seg.ctl rfl (fun _ => stepG_seq) ?_
  | refine Seg.ctl rfl (fun _ => stepG_region_end) ?_
  | (refine Seg.ctl rfl (fun _ => stepG_region) ?_; simp only [List.size_toArray, List.length_cons, List.length_nil, Nat.reduceAdd, Nat.zero_add, List.range, List.range.loop])
  | refine Seg.ctl rfl (fun _ => stepG_block) ?_
  | refine Seg.ctl rfl (fun _ => stepG_inBlock) ?_
  | refine Seg.ctl rfl (fun _ => stepG_ret') ?_
  | refine Seg.ctl rfl (fun _ => stepG_loop) ?_
  | refine Seg.ctl rfl (fun _ => stepG_inLoop) ?_
  | refine Seg.ctl rfl (fun _ => stepG_skip) ?_
  first
  | refine Seg.ctl rfl (fun _ => stepG_seq) ?_
  | refine Seg.ctl rfl (fun _ => stepG_region_end) ?_
  | (refine Seg.ctl rfl (fun _ => stepG_region) ?_; simp only [List.size_toArray, List.length_cons, List.length_nil, Nat.reduceAdd, Nat.zero_add, List.range, List.range.loop])
  | refine Seg.ctl rfl (fun _ => stepG_block) ?_
  | refine Seg.ctl rfl (fun _ => stepG_inBlock) ?_
  | refine Seg.ctl rfl (fun _ => stepG_ret') ?_
  | refine Seg.ctl rfl (fun _ => stepG_loop) ?_
  | refine Seg.ctl rfl (fun _ => stepG_inLoop) ?_
  | refine Seg.ctl rfl (fun _ => stepG_skip) ?_
  first
  | refine Seg.ctl rfl (fun _ => stepG_seq) ?_
  | refine Seg.ctl rfl (fun _ => stepG_region_end) ?_
  | (refine Seg.ctl rfl (fun _ => stepG_region) ?_; simp only [List.size_toArray, List.length_cons, List.length_nil, Nat.reduceAdd, Nat.zero_add, List.range, List.range.loop])
  | refine Seg.ctl rfl (fun _ => stepG_block) ?_
  | refine Seg.ctl rfl (fun _ => stepG_inBlock) ?_
  | refine Seg.ctl rfl (fun _ => stepG_ret') ?_
  | refine Seg.ctl rfl (fun _ => stepG_loop) ?_
  | refine Seg.ctl rfl (fun _ => stepG_inLoop) ?_
  | refine Seg.ctl rfl (fun _ => stepG_skip) ?_
  refine Seg.pu (Pu.move (v := .int .i64 k) rfl (by simp [ev_put_ne, ev_put_eq, ev_const, sz_put, S.size, S.t0, S.t1, S.t2, S.t6, S.t7])) rfl rfl (by decide) ?_
  simp only [List.getElem_toArray, List.getElem_cons_succ, List.getElem_cons_zero, ev_put_none]
  refine Seg.pu (Pu.assign (v := .int .i64 k) rfl (by simp [ev_put_ne, ev_put_eq, ev_const, sz_put, S.size, S.t0, S.t1, S.t2, S.t6, S.t7])) rfl rfl (by decide) ?_
  simp only [List.getElem_toArray, List.getElem_cons_succ, List.getElem_cons_zero, ev_put_none]
  first
  | refine Seg.ctl rfl (fun _ => stepG_seq) ?_
  | refine Seg.ctl rfl (fun _ => stepG_region_end) ?_
  | (refine Seg.ctl rfl (fun _ => stepG_region) ?_; simp only [List.size_toArray, List.length_cons, List.length_nil, Nat.reduceAdd, Nat.zero_add, List.range, List.range.loop])
  | refine Seg.ctl rfl (fun _ => stepG_block) ?_
  | refine Seg.ctl rfl (fun _ => stepG_inBlock) ?_
  | refine Seg.ctl rfl (fun _ => stepG_ret') ?_
  | refine Seg.ctl rfl (fun _ => stepG_loop) ?_
  | refine Seg.ctl rfl (fun _ => stepG_inLoop) ?_
  | refine Seg.ctl rfl (fun _ => stepG_skip) ?_
  first
  | refine Seg.ctl rfl (fun _ => stepG_seq) ?_
  | refine Seg.ctl rfl (fun _ => stepG_region_end) ?_
  | (refine Seg.ctl rfl (fun _ => stepG_region) ?_; simp only [List.size_toArray, List.length_cons, List.length_nil, Nat.reduceAdd, Nat.zero_add, List.range, List.range.loop])
  | refine Seg.ctl rfl (fun _ => stepG_block) ?_
  | refine Seg.ctl rfl (fun _ => stepG_inBlock) ?_
  | refine Seg.ctl rfl (fun _ => stepG_ret') ?_
  | refine Seg.ctl rfl (fun _ => stepG_loop) ?_
  | refine Seg.ctl rfl (fun _ => stepG_inLoop) ?_
  | refine Seg.ctl rfl (fun _ => stepG_skip) ?_
  first
  | refine Seg.ctl rfl (fun _ => stepG_seq) ?_
  | refine Seg.ctl rfl (fun _ => stepG_region_end) ?_
  | (refine Seg.ctl rfl (fun _ => stepG_region) ?_; simp only [List.size_toArray, List.length_cons, List.length_nil, Nat.reduceAdd, Nat.zero_add, List.range, List.range.loop])
  | refine Seg.ctl rfl (fun _ => stepG_block) ?_
  | refine Seg.ctl rfl (fun _ => stepG_inBlock) ?_
  | refine Seg.ctl rfl (fun _ => stepG_ret') ?_
  | refine Seg.ctl rfl (fun _ => stepG_loop) ?_
  | refine Seg.ctl rfl (fun _ => stepG_inLoop) ?_
  | refine Seg.ctl rfl (fun _ => stepG_skip) ?_
  first
  | refine Seg.ctl rfl (fun _ => stepG_seq) ?_
  | refine Seg.ctl rfl (fun _ => stepG_region_end) ?_
  | (refine Seg.ctl rfl (fun _ => stepG_region) ?_; simp only [List.size_toArray, List.length_cons, List.length_nil, Nat.reduceAdd, Nat.zero_add, List.range, List.range.loop])
  | refine Seg.ctl rfl (fun _ => stepG_block) ?_
  | refine Seg.ctl rfl (fun _ => stepG_inBlock) ?_
  | refine Seg.ctl rfl (fun _ => stepG_ret') ?_
  | refine Seg.ctl rfl (fun _ => stepG_loop) ?_
  | refine Seg.ctl rfl (fun _ => stepG_inLoop) ?_
  | refine Seg.ctl rfl (fun _ => stepG_skip) ?_
  obtain ⟨ad, cp, f, b, hDk, rfl, hcell⟩ := D.drop k hk
  refine Seg.pu (Pu.move (v := .int .i64 k) rfl (by simp [ev_put_ne, ev_put_eq, ev_const, sz_put, S.size, S.t0, S.t1, S.t2, S.t6, S.t7])) rfl rfl (by decide) ?_
  simp only [List.getElem_toArray, List.getElem_cons_succ, List.getElem_cons_zero, ev_put_none]
  refine Seg.pu (pu_f0 (g := bd) rfl (by simp [ev_put_ne, ev_put_eq, ev_const, sz_put, S.size, S.t0, S.t1, S.t2, S.t6, S.t7])) rfl rfl (by decide) ?_
  simp only [List.getElem_toArray, List.getElem_cons_succ, List.getElem_cons_zero, ev_put_none]
  refine Seg.load D.cn (A := ⟨bd, 0, none⟩) (vs := [.slice (some ad) N1 cp]) rfl rfl (by decide) rfl (by simp [ev_put_ne, ev_put_eq, ev_const, sz_put, S.size, S.t0, S.t1, S.t2, S.t6, S.t7]) (.one Try.underlying29 rfl) (ck1 ((D.box 0 _ rfl).ck W.old)) ?_
  simp only [List.getElem_toArray, List.getElem_cons_succ, List.getElem_cons_zero, ev_put_none]
  refine Seg.pu (Pu.len (ao := some ad) (m := N1) (cp := cp) rfl Try.underlying29 (by simp [ev_put_ne, ev_put_eq, ev_const, sz_put, S.size, S.t0, S.t1, S.t2, S.t6, S.t7])) rfl rfl (by decide) ?_
  simp only [List.getElem_toArray, List.getElem_cons_succ, List.getElem_cons_zero, ev_put_none]
  refine Seg.pu (Pu.bin (v := .bool true) (m := k) (l := N1) rfl (by simp [ev_put_ne, ev_put_eq, ev_const, sz_put, S.size, S.t0, S.t1, S.t2, S.t6, S.t7]) (by simp [ev_put_ne, ev_put_eq, ev_const, sz_put, S.size, S.t0, S.t1, S.t2, S.t6, S.t7]) (by rw [bin_lss, decide_eq_true]; omega)) rfl rfl (by decide) ?_
  simp only [List.getElem_toArray, List.getElem_cons_succ, List.getElem_cons_zero, ev_put_none]
  first
  | refine Seg.ctl rfl (fun _ => stepG_seq) ?_
  | refine Seg.ctl rfl (fun _ => stepG_region_end) ?_
  | (refine Seg.ctl rfl (fun _ => stepG_region) ?_; simp only [List.size_toArray, List.length_cons, List.length_nil, Nat.reduceAdd, Nat.zero_add, List.range, List.range.loop])
  | refine Seg.ctl rfl (fun _ => stepG_block) ?_
  | refine Seg.ctl rfl (fun _ => stepG_inBlock) ?_
  | refine Seg.ctl rfl (fun _ => stepG_ret') ?_
  | refine Seg.ctl rfl (fun _ => stepG_loop) ?_
  | refine Seg.ctl rfl (fun _ => stepG_inLoop) ?_
  | refine Seg.ctl rfl (fun _ => stepG_skip) ?_
  refine Seg.ctl rfl (fun _ => stepG_cond (t := true) (by simp [ev_put_ne, ev_put_eq, ev_const, sz_put, S.size, S.t0, S.t1, S.t2, S.t6, S.t7])) ?_
  simp only [if_true]
  refine Seg.le (n := 100 + 1 + 11 * (0 + 1) + 1) (Seg.region (N := 0) (n := 100) (w0 := w0) (fn := 34) (by decide) (by kernel_rfl) fun w3 o3 r3 => ?_) (by decide)
  simp only [List.size_toArray, List.length_cons, List.length_nil, Nat.reduceAdd, Nat.zero_add]
  have hO : OldO nf c w0 w3 := W.old.ro r3
  have hMo := W.nM
  let F : World → Who → Prop := fun w4 o4 => Kn nf c false w4 o4 kn (.cells #[v1, v2] 32) ∧ o4 kn = false ∧ OwnO nf false w4 o4 62 2 v1 n1 xs1 ∧ OwnO nf false w4 o4 64 5 v2 n2 xs2 ∧ OldO nf c w0 w4 ∧ KnM nf c w4 o4 M
  have Frx : ∀ {w4 o4 w5 o5}, F w4 o4 → RX nf c false none w4 o4 w5 o5 → F w5 o5 := fun ⟨a1, a2, a3, a4, a5, a6⟩ r => ⟨a1.rx r (by simp), (r.own _ a1.lt).trans a2, a3.rx D.cn r (by simp), a4.rx D.cn r (by simp), a5.rx r (by simp), a6.rx r (by simp)⟩
  have hF : F w3 o3 := Frx ⟨W.K, W.mine, W.h1, W.h2, W.old, W.kM⟩ (r3.rx none)
  clear r3
  refine anyO_take (fun _ _ _ _ _ x r => x.rely r) (i := 0) (.pointer (some ⟨kn, 0, none⟩)) rfl (by kernel_rfl) (by kernel_rfl) (by kernel_rfl) (QuietO.pu (pu_f0 rfl (by simp [ev_put_ne, ev_put_eq, ev_const, sz_put, S.size, S.t0, S.t1, S.t2, S.t6, S.t7])) rfl) hO ?_
  simp only [List.getElem_toArray, List.getElem_cons_succ, List.getElem_cons_zero, ev_put_none]
  refine anyO_take (fun _ _ _ _ _ x r => x.rely r) (i := 2) (.pointer (some ⟨bd, 0, none⟩)) rfl (by kernel_rfl) (by kernel_rfl) (by kernel_rfl) (QuietO.pu (pu_f0 rfl (by simp [ev_put_ne, ev_put_eq, ev_const, sz_put, S.size, S.t0, S.t1, S.t2, S.t6, S.t7])) rfl) hO ?_
  simp only [List.getElem_toArray, List.getElem_cons_succ, List.getElem_cons_zero, ev_put_none]
  refine anyO_take (fun _ _ _ _ _ x r => x.rely r) (i := 3) (.slice (some ad) N1 cp) rfl (by kernel_rfl) (by kernel_rfl) (by kernel_rfl) (QuietO.load D.cn (A := ⟨bd, 0, none⟩) (vs := [.slice (some ad) N1 cp]) rfl rfl (by simp [ev_put_ne, ev_put_eq, ev_const, sz_put, S.size, S.t0, S.t1, S.t2, S.t6, S.t7]) (.one Try.underlying29 rfl) (cko1 (D.box 0 _ rfl))) hO ?_
  simp only [List.getElem_toArray, List.getElem_cons_succ, List.getElem_cons_zero, ev_put_none]
  refine anyO_take (fun _ _ _ _ _ x r => x.rely r) (i := 4) (.int .i64 k) rfl (by kernel_rfl) (by kernel_rfl) (by kernel_rfl) (QuietO.pu (Pu.move rfl (by simp [ev_put_ne, ev_put_eq, ev_const, sz_put, S.size, S.t0, S.t1, S.t2, S.t6, S.t7])) rfl) hO ?_
  simp only [List.getElem_toArray, List.getElem_cons_succ, List.getElem_cons_zero, ev_put_none]
  refine anyO_take (fun _ _ _ _ _ x r => x.rely r) (i := 5) (.pointer (some (ad.add (k * 2)))) rfl (by kernel_rfl) (by kernel_rfl) (by kernel_rfl) (QuietO.pu (Pu.index (inf := Try.t62) rfl Try.underlying29 Try.type62 (m := N1) (cp := cp) (by simp [ev_put_ne, ev_put_eq, ev_const, sz_put, S.size, S.t0, S.t1, S.t2, S.t6, S.t7]) (by simp [ev_put_ne, ev_put_eq, ev_const, sz_put, S.size, S.t0, S.t1, S.t2, S.t6, S.t7]) hk) rfl) hO ?_
  simp only [List.getElem_toArray, List.getElem_cons_succ, List.getElem_cons_zero, ev_put_none]
  refine anyO_take (fun _ _ _ _ _ x r => x.rely r) (i := 6) (.agg #[.int .i64 f, .int .i64 b]) rfl (by kernel_rfl) (by kernel_rfl) (by kernel_rfl) (QuietO.load D.cn (A := ad.add (k * 2)) (vs := [.int .i64 f, .int .i64 b]) rfl rfl (by simp [ev_put_ne, ev_put_eq, ev_const, sz_put, S.size, S.t0, S.t1, S.t2, S.t6, S.t7]) (.agg Try.underlying62 rfl Try.type62 rfl (by simp)) hcell) hO ?_
  simp only [List.getElem_toArray, List.getElem_cons_succ, List.getElem_cons_zero, ev_put_none]
  clear hO
  refine anyO_all (rs := [1, 7]) (by kernel_rfl) (by simp) (fun i hi => ?_)
  simp only [List.mem_cons, List.not_mem_nil, or_false] at hi
  rcases hi with rfl | rfl
  ·
    refine OpO.still v1 rfl rfl (fun w5 o5 r => load_law D.cn (A := ⟨kn, 0, none⟩) rfl (by simp [ev_put_ne, ev_put_eq, ev_const, sz_put, S.size, S.t0, S.t1, S.t2, S.t6, S.t7]) (.one Try.underlying29 rfl) ((hF.1.rx (r.rx none) (by simp)).cks (vs := [v1]) rfl)) (fun w5 o5 r => ?_)
    replace hF := Frx hF (r.rx none)
    try replace hB := hB.rx (r.rx none) (by simp)
    clear r
    simp only [List.getElem_toArray, List.getElem_cons_succ, List.getElem_cons_zero, ev_put_none]
    refine anyO_all (rs := [7]) (by kernel_rfl) (by simp) (fun i hi => ?_)
    simp only [List.mem_cons, List.not_mem_nil, or_false] at hi
    subst hi
    refine OpO.eff rfl rfl (Eff.new D.cn hF.2.2.2.2.1.size (.cells #[.int .i64 f, .int .i64 b] 62) (fun g => .slice (some ⟨g, 0, none⟩) 1 1) (fun w => (build1_law (x := .tmp 21) (v := .agg #[.int .i64 f, .int .i64 b]) rfl (by simp [ev_put_ne, ev_put_eq, ev_const, sz_put, S.size, S.t0, S.t1, S.t2, S.t6, S.t7]) Try.underlying29 Try.type62 rfl rfl rfl (by decide) (by decide) w).1) (fun w => (build1_law (x := .tmp 21) (v := .agg #[.int .i64 f, .int .i64 b]) rfl (by simp [ev_put_ne, ev_put_eq, ev_const, sz_put, S.size, S.t0, S.t1, S.t2, S.t6, S.t7]) Try.underlying29 Try.type62 rfl rfl rfl (by decide) (by decide) w).2)) (fun v w5 o5 h => ?_)
    obtain ⟨gb, rfl, r, hg, hmb, hB⟩ := h
    have hgk : ∀ g, v1.ownBlock = some g → g ≠ gb := fun g e => by have := (World.ownsRow.lt hF.2.2.1.row g e).2; omega
    replace hF := Frx hF r
    clear r
    simp only [List.getElem_toArray, List.getElem_cons_succ, List.getElem_cons_zero, ev_put_none]
    refine anyO_all (rs := [8]) (by kernel_rfl) (by simp) (fun i hi => ?_)
    simp only [List.mem_cons, List.not_mem_nil, or_false] at hi
    subst hi
    refine OpO.eff rfl rfl (Eff.append D.cn hF.2.2.2.2.1.size _ _ _ rfl 62 _ _ 2 Try.underlying29 Try.type62 rfl rfl rfl (by decide) (v := v1) (ad := ⟨gb, 0, none⟩) (m := 1) (cp := 1) (news := [.int .i64 f, .int .i64 b]) (by simp [ev_put_ne, ev_put_eq, ev_const, sz_put, S.size, S.t0, S.t1, S.t2, S.t6, S.t7]) hF.2.2.1 (by simp [ev_put_ne, ev_put_eq, ev_const, sz_put, S.size, S.t0, S.t1, S.t2, S.t6, S.t7]) rfl (hB.cks rfl) (by simp [Value.oneCell']) (by simp only [maxLen]; omega) (by show (n1 + 1) * 16 ≤ _; omega) (by decide)) (fun v1' w6 o6 h => ?_)
    obtain ⟨r6, h1', hfr⟩ := h
    obtain ⟨K, hm, h1, h2, hO, hKM⟩ := hF
    have hKM6 := hKM.rx r6 (fun p hp e => (hMo p hp).2.1 e.symm)
    have hMo6 := hMo.turn1 hKM hfr
    have hl1 := World.ownsRow.lt h1.row
    have hl2 := World.ownsRow.lt h2.row
    have hne1 : ∀ g, v1.ownBlock = some g → g ≠ kn := fun g e he => own_neO h1 e (he ▸ K.eq)  (by decide)
    have hne2 : ∀ g, v2.ownBlock = some g → ∀ g', v1.ownBlock = some g' → g ≠ g' := fun g e g' e' he => own_own h2 h1 e (he ▸ e') (by decide)
    have hm6 := (r6.own kn K.lt).trans hm
    have K6 := K.rx r6 (fun e => hne1 kn e.symm rfl)
    have h26 := h2.rx D.cn r6 (fun g e e' => hne2 g e g e'.symm rfl)
    have hO6 := hO.rx r6 (fun g e => (hl1 g e).1)
    clear r6 hB hmb
    obtain ⟨ap, cpp, rfl⟩ := h1'.sl
    simp only [List.getElem_toArray, List.getElem_cons_succ, List.getElem_cons_zero, ev_put_none]
    refine anyO_take (fun _ _ _ _ _ x r => x.rely r) (i := 9) (.pointer (some ⟨kn, 0, none⟩)) rfl (by kernel_rfl) (by kernel_rfl) (by kernel_rfl) (QuietO.pu (pu_f0 rfl (by simp [ev_put_ne, ev_put_eq, ev_const, sz_put, S.size, S.t0, S.t1, S.t2, S.t6, S.t7])) rfl) hO6 ?_
    simp only [List.getElem_toArray, List.getElem_cons_succ, List.getElem_cons_zero, ev_put_none]
    refine anyO_all (rs := [10]) (by kernel_rfl) (by simp) (fun i hi => ?_)
    simp only [List.mem_cons, List.not_mem_nil, or_false] at hi
    subst hi
    refine OpO.eff rfl rfl (Eff.store (g := kn) (off := 0) (vs := [.slice ap (n1 + 1) cpp]) D.cn rfl (by simp [ev_put_ne, ev_put_eq, ev_const, sz_put, S.size, S.t0, S.t1, S.t2, S.t6, S.t7]) (by simp [ev_put_ne, ev_put_eq, ev_const, sz_put, S.size, Value.cells]) Try.type29 rfl (by simp [Value.oneCell']) K6 W.nk hm6 (by simp)) (fun v w7 o7 h => ?_)
    obtain ⟨rfl, r7, hm7, K7⟩ := h
    replace K7 : Kn nf c false w7 o7 kn (.cells #[.slice ap (n1 + 1) cpp, v2] 32) := K7
    have h17 := h1'.rx D.cn r7 (fun g e e' => own_neO h1' e (by cases e'; exact K6.eq) (by decide))
    have h27 := h26.rx D.cn r7 (fun g e e' => own_neO h26 e (by cases e'; exact K6.eq) (by decide))
    have hKM7 := hKM6.rx r7 (fun p hp e => (hMo p hp).1 (by injection e))
    have hO7 := hO6.rx r7 (fun g e => by cases e; exact W.nk)
    clear r7
    simp only [List.getElem_toArray, List.getElem_cons_succ, List.getElem_cons_zero, ev_put_none]
    refine anyO_done (by kernel_rfl) (Seg.done ⟨_, rfl, ⟨by simp [sz_put, S.size], by simpa [df_put] using S.defers, (by simp [ev_put_ne, ev_put_eq, ev_const, sz_put, S.size, S.t0, S.t1, S.t2, S.t6, S.t7]), (by simp [ev_put_ne, ev_put_eq, ev_const, sz_put, S.size, S.t0, S.t1, S.t2, S.t6, S.t7]), (by simp [ev_put_ne, ev_put_eq, ev_const, sz_put, S.size, S.t0, S.t1, S.t2, S.t6, S.t7]), (by simp [ev_put_ne, ev_put_eq, ev_const, sz_put, S.size, S.t0, S.t1, S.t2, S.t6, S.t7]), (by simp [ev_put_ne, ev_put_eq, ev_const, sz_put, S.size, S.t0, S.t1, S.t2, S.t6, S.t7])⟩, ⟨_, _, _, _, M, ⟨hO7, W.nk, hm7, K7, h17, h27, hKM7, hMo6⟩, hC2 _ _ _ _ _ hDk hC⟩⟩) _
  ·
    refine OpO.eff rfl rfl (Eff.new D.cn hF.2.2.2.2.1.size (.cells #[.int .i64 f, .int .i64 b] 62) (fun g => .slice (some ⟨g, 0, none⟩) 1 1) (fun w => (build1_law (x := .tmp 21) (v := .agg #[.int .i64 f, .int .i64 b]) rfl (by simp [ev_put_ne, ev_put_eq, ev_const, sz_put, S.size, S.t0, S.t1, S.t2, S.t6, S.t7]) Try.underlying29 Try.type62 rfl rfl rfl (by decide) (by decide) w).1) (fun w => (build1_law (x := .tmp 21) (v := .agg #[.int .i64 f, .int .i64 b]) rfl (by simp [ev_put_ne, ev_put_eq, ev_const, sz_put, S.size, S.t0, S.t1, S.t2, S.t6, S.t7]) Try.underlying29 Try.type62 rfl rfl rfl (by decide) (by decide) w).2)) (fun v w5 o5 h => ?_)
    obtain ⟨gb, rfl, r, hg, hmb, hB⟩ := h
    have hgk : ∀ g, v1.ownBlock = some g → g ≠ gb := fun g e => by have := (World.ownsRow.lt hF.2.2.1.row g e).2; omega
    replace hF := Frx hF r
    clear r
    simp only [List.getElem_toArray, List.getElem_cons_succ, List.getElem_cons_zero, ev_put_none]
    refine anyO_all (rs := [1]) (by kernel_rfl) (by simp) (fun i hi => ?_)
    simp only [List.mem_cons, List.not_mem_nil, or_false] at hi
    subst hi
    refine OpO.still v1 rfl rfl (fun w5 o5 r => load_law D.cn (A := ⟨kn, 0, none⟩) rfl (by simp [ev_put_ne, ev_put_eq, ev_const, sz_put, S.size, S.t0, S.t1, S.t2, S.t6, S.t7]) (.one Try.underlying29 rfl) ((hF.1.rx (r.rx none) (by simp)).cks (vs := [v1]) rfl)) (fun w5 o5 r => ?_)
    replace hF := Frx hF (r.rx none)
    try replace hB := hB.rx (r.rx none) (by simp)
    clear r
    simp only [List.getElem_toArray, List.getElem_cons_succ, List.getElem_cons_zero, ev_put_none]
    refine anyO_all (rs := [8]) (by kernel_rfl) (by simp) (fun i hi => ?_)
    simp only [List.mem_cons, List.not_mem_nil, or_false] at hi
    subst hi
    refine OpO.eff rfl rfl (Eff.append D.cn hF.2.2.2.2.1.size _ _ _ rfl 62 _ _ 2 Try.underlying29 Try.type62 rfl rfl rfl (by decide) (v := v1) (ad := ⟨gb, 0, none⟩) (m := 1) (cp := 1) (news := [.int .i64 f, .int .i64 b]) (by simp [ev_put_ne, ev_put_eq, ev_const, sz_put, S.size, S.t0, S.t1, S.t2, S.t6, S.t7]) hF.2.2.1 (by simp [ev_put_ne, ev_put_eq, ev_const, sz_put, S.size, S.t0, S.t1, S.t2, S.t6, S.t7]) rfl (hB.cks rfl) (by simp [Value.oneCell']) (by simp only [maxLen]; omega) (by show (n1 + 1) * 16 ≤ _; omega) (by decide)) (fun v1' w6 o6 h => ?_)
    obtain ⟨r6, h1', hfr⟩ := h
    obtain ⟨K, hm, h1, h2, hO, hKM⟩ := hF
    have hKM6 := hKM.rx r6 (fun p hp e => (hMo p hp).2.1 e.symm)
    have hMo6 := hMo.turn1 hKM hfr
    have hl1 := World.ownsRow.lt h1.row
    have hl2 := World.ownsRow.lt h2.row
    have hne1 : ∀ g, v1.ownBlock = some g → g ≠ kn := fun g e he => own_neO h1 e (he ▸ K.eq)  (by decide)
    have hne2 : ∀ g, v2.ownBlock = some g → ∀ g', v1.ownBlock = some g' → g ≠ g' := fun g e g' e' he => own_own h2 h1 e (he ▸ e') (by decide)
    have hm6 := (r6.own kn K.lt).trans hm
    have K6 := K.rx r6 (fun e => hne1 kn e.symm rfl)
    have h26 := h2.rx D.cn r6 (fun g e e' => hne2 g e g e'.symm rfl)
    have hO6 := hO.rx r6 (fun g e => (hl1 g e).1)
    clear r6 hB hmb
    obtain ⟨ap, cpp, rfl⟩ := h1'.sl
    simp only [List.getElem_toArray, List.getElem_cons_succ, List.getElem_cons_zero, ev_put_none]
    refine anyO_take (fun _ _ _ _ _ x r => x.rely r) (i := 9) (.pointer (some ⟨kn, 0, none⟩)) rfl (by kernel_rfl) (by kernel_rfl) (by kernel_rfl) (QuietO.pu (pu_f0 rfl (by simp [ev_put_ne, ev_put_eq, ev_const, sz_put, S.size, S.t0, S.t1, S.t2, S.t6, S.t7])) rfl) hO6 ?_
    simp only [List.getElem_toArray, List.getElem_cons_succ, List.getElem_cons_zero, ev_put_none]
    refine anyO_all (rs := [10]) (by kernel_rfl) (by simp) (fun i hi => ?_)
    simp only [List.mem_cons, List.not_mem_nil, or_false] at hi
    subst hi
    refine OpO.eff rfl rfl (Eff.store (g := kn) (off := 0) (vs := [.slice ap (n1 + 1) cpp]) D.cn rfl (by simp [ev_put_ne, ev_put_eq, ev_const, sz_put, S.size, S.t0, S.t1, S.t2, S.t6, S.t7]) (by simp [ev_put_ne, ev_put_eq, ev_const, sz_put, S.size, Value.cells]) Try.type29 rfl (by simp [Value.oneCell']) K6 W.nk hm6 (by simp)) (fun v w7 o7 h => ?_)
    obtain ⟨rfl, r7, hm7, K7⟩ := h
    replace K7 : Kn nf c false w7 o7 kn (.cells #[.slice ap (n1 + 1) cpp, v2] 32) := K7
    have h17 := h1'.rx D.cn r7 (fun g e e' => own_neO h1' e (by cases e'; exact K6.eq) (by decide))
    have h27 := h26.rx D.cn r7 (fun g e e' => own_neO h26 e (by cases e'; exact K6.eq) (by decide))
    have hKM7 := hKM6.rx r7 (fun p hp e => (hMo p hp).1 (by injection e))
    have hO7 := hO6.rx r7 (fun g e => by cases e; exact W.nk)
    clear r7
    simp only [List.getElem_toArray, List.getElem_cons_succ, List.getElem_cons_zero, ev_put_none]
    refine anyO_done (by kernel_rfl) (Seg.done ⟨_, rfl, ⟨by simp [sz_put, S.size], by simpa [df_put] using S.defers, (by simp [ev_put_ne, ev_put_eq, ev_const, sz_put, S.size, S.t0, S.t1, S.t2, S.t6, S.t7]), (by simp [ev_put_ne, ev_put_eq, ev_const, sz_put, S.size, S.t0, S.t1, S.t2, S.t6, S.t7]), (by simp [ev_put_ne, ev_put_eq, ev_const, sz_put, S.size, S.t0, S.t1, S.t2, S.t6, S.t7]), (by simp [ev_put_ne, ev_put_eq, ev_const, sz_put, S.size, S.t0, S.t1, S.t2, S.t6, S.t7]), (by simp [ev_put_ne, ev_put_eq, ev_const, sz_put, S.size, S.t0, S.t1, S.t2, S.t6, S.t7])⟩, ⟨_, _, _, _, M, ⟨hO7, W.nk, hm7, K7, h17, h27, hKM7, hMo6⟩, hC2 _ _ _ _ _ hDk hC⟩⟩) _
end Go.Proofs.Ytjkfnjjkjhggfaa
