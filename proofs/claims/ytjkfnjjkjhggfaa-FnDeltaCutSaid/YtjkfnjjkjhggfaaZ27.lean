/- slices.Clone of []int in company. impl.copyRoute in company. Operations that do not look at memory, each by its make; a loop's slots by what they hold. -/
import Derived.Test.YtjkfnjjkjhggfaaZ26
import Derived.Conc.DeferLaws
import Derived.Great.BuildSlice
import Derived.Great.FillDense
set_option linter.unusedSimpArgs false
set_option linter.unusedVariables false
namespace Go.Proofs.Ytjkfnjjkjhggfaa
open Go.Conc Go.RowKit

/-- A fresh row of one's own. -/
def FreshO (w : World) (v : Value) : Prop := ∀ g, v.ownBlock = some g → w.heap.size ≤ g
theorem clone_o {nf c : Nat} (hcn : c < nf) {w : World} {o : Who} (hn : nf ≤ w.heap.size) {s : Value} {xs : List Value} (hS : SrcO nf c false w o s xs) (hlen : xs.length ≤ 1000000) :
    CallsO Try.prog nf c false 40 47 #[s] w o fun v w' o' => RX nf c false none w o w' o' ∧ OwnO nf false w' o' 3 1 v xs.length xs ∧ FreshO w v := by
  refine callsO_of Try.func47 (by rfl) fun u cs => ?_
  simp only [Try.ntmps47, List.size_toArray, List.length_cons, List.length_nil, Nat.reduceAdd, Nat.reduceSub, Array.replicate_succ, Array.replicate_zero, List.push_toArray, List.append_toArray, List.nil_append, List.cons_append]
  first
  | refine Seg.ctl rfl (fun _ => stepG_seq) ?_
  | refine Seg.ctl rfl (fun _ => stepG_region_end) ?_
  | (refine Seg.ctl rfl (fun _ => stepG_region) ?_; simp only [List.size_toArray, List.length_cons, List.length_nil, Nat.reduceAdd, Nat.zero_add, List.range, List.range.loop])
  | refine Seg.ctl rfl (fun _ => stepG_block) ?_
  | refine Seg.ctl rfl (fun _ => stepG_inBlock) ?_
  | refine Seg.ctl rfl (fun _ => stepG_ret') ?_
  | refine Seg.ctl rfl (fun _ => stepG_loop) ?_
  | refine Seg.ctl rfl (fun _ => stepG_inLoop) ?_
  | refine Seg.ctl rfl (fun _ => stepG_skip) ?_
  first
  | refine Seg.ctl rfl (fun _ => stepG_seq) ?_
  | refine Seg.ctl rfl (fun _ => stepG_region_end) ?_
  | (refine Seg.ctl rfl (fun _ => stepG_region) ?_; simp only [List.size_toArray, List.length_cons, List.length_nil, Nat.reduceAdd, Nat.zero_add, List.range, List.range.loop])
  | refine Seg.ctl rfl (fun _ => stepG_block) ?_
  | refine Seg.ctl rfl (fun _ => stepG_inBlock) ?_
  | refine Seg.ctl rfl (fun _ => stepG_ret') ?_
  | refine Seg.ctl rfl (fun _ => stepG_loop) ?_
  | refine Seg.ctl rfl (fun _ => stepG_inLoop) ?_
  | refine Seg.ctl rfl (fun _ => stepG_skip) ?_
  refine Seg.pure (.slice none 0 0) rfl rfl (by decide) (fun w => by simp [go_sem, execOp, Act.eval, Instr.fieldAt, Instr.sureAddr, resolve, invoke, builtin, Builtin.len_]) (fun w => by simp [go_sem, execOp, Act.eval, Instr.fieldAt, Instr.sureAddr, resolve, invoke, builtin, Builtin.len_]) ?_
  walk_nrm
  first
  | refine Seg.ctl rfl (fun _ => stepG_seq) ?_
  | refine Seg.ctl rfl (fun _ => stepG_region_end) ?_
  | (refine Seg.ctl rfl (fun _ => stepG_region) ?_; simp only [List.size_toArray, List.length_cons, List.length_nil, Nat.reduceAdd, Nat.zero_add, List.range, List.range.loop])
  | refine Seg.ctl rfl (fun _ => stepG_block) ?_
  | refine Seg.ctl rfl (fun _ => stepG_inBlock) ?_
  | refine Seg.ctl rfl (fun _ => stepG_ret') ?_
  | refine Seg.ctl rfl (fun _ => stepG_loop) ?_
  | refine Seg.ctl rfl (fun _ => stepG_inLoop) ?_
  | refine Seg.ctl rfl (fun _ => stepG_skip) ?_
  first
  | refine Seg.ctl rfl (fun _ => stepG_seq) ?_
  | refine Seg.ctl rfl (fun _ => stepG_region_end) ?_
  | (refine Seg.ctl rfl (fun _ => stepG_region) ?_; simp only [List.size_toArray, List.length_cons, List.length_nil, Nat.reduceAdd, Nat.zero_add, List.range, List.range.loop])
  | refine Seg.ctl rfl (fun _ => stepG_block) ?_
  | refine Seg.ctl rfl (fun _ => stepG_inBlock) ?_
  | refine Seg.ctl rfl (fun _ => stepG_ret') ?_
  | refine Seg.ctl rfl (fun _ => stepG_loop) ?_
  | refine Seg.ctl rfl (fun _ => stepG_inLoop) ?_
  | refine Seg.ctl rfl (fun _ => stepG_skip) ?_
  first
  | refine Seg.ctl rfl (fun _ => stepG_seq) ?_
  | refine Seg.ctl rfl (fun _ => stepG_region_end) ?_
  | (refine Seg.ctl rfl (fun _ => stepG_region) ?_; simp only [List.size_toArray, List.length_cons, List.length_nil, Nat.reduceAdd, Nat.zero_add, List.range, List.range.loop])
  | refine Seg.ctl rfl (fun _ => stepG_block) ?_
  | refine Seg.ctl rfl (fun _ => stepG_inBlock) ?_
  | refine Seg.ctl rfl (fun _ => stepG_ret') ?_
  | refine Seg.ctl rfl (fun _ => stepG_loop) ?_
  | refine Seg.ctl rfl (fun _ => stepG_inLoop) ?_
  | refine Seg.ctl rfl (fun _ => stepG_skip) ?_
  first
  | refine Seg.ctl rfl (fun _ => stepG_seq) ?_
  | refine Seg.ctl rfl (fun _ => stepG_region_end) ?_
  | (refine Seg.ctl rfl (fun _ => stepG_region) ?_; simp only [List.size_toArray, List.length_cons, List.length_nil, Nat.reduceAdd, Nat.zero_add, List.range, List.range.loop])
  | refine Seg.ctl rfl (fun _ => stepG_block) ?_
  | refine Seg.ctl rfl (fun _ => stepG_inBlock) ?_
  | refine Seg.ctl rfl (fun _ => stepG_ret') ?_
  | refine Seg.ctl rfl (fun _ => stepG_loop) ?_
  | refine Seg.ctl rfl (fun _ => stepG_inLoop) ?_
  | refine Seg.ctl rfl (fun _ => stepG_skip) ?_
  refine Seg.pure (s) rfl rfl (by decide) (fun w => by simp [go_sem, execOp, Act.eval, Instr.fieldAt, Instr.sureAddr, resolve, invoke, builtin, Builtin.len_]) (fun w => by simp [go_sem, execOp, Act.eval, Instr.fieldAt, Instr.sureAddr, resolve, invoke, builtin, Builtin.len_]) ?_
  walk_nrm
  rcases hS with ⟨rfl, rfl⟩ | ⟨ad, cp, rfl, hc, h1⟩
  ·
    refine Seg.eqNil (r := true) rfl rfl (by decide) rfl Try.underlying40 rfl (.inl ⟨rfl, rfl⟩) ?_
    walk_nrm
    first
    | refine Seg.ctl rfl (fun _ => stepG_seq) ?_
    | refine Seg.ctl rfl (fun _ => stepG_region_end) ?_
    | (refine Seg.ctl rfl (fun _ => stepG_region) ?_; simp only [List.size_toArray, List.length_cons, List.length_nil, Nat.reduceAdd, Nat.zero_add, List.range, List.range.loop])
    | refine Seg.ctl rfl (fun _ => stepG_block) ?_
    | refine Seg.ctl rfl (fun _ => stepG_inBlock) ?_
    | refine Seg.ctl rfl (fun _ => stepG_ret') ?_
    | refine Seg.ctl rfl (fun _ => stepG_loop) ?_
    | refine Seg.ctl rfl (fun _ => stepG_inLoop) ?_
    | refine Seg.ctl rfl (fun _ => stepG_skip) ?_
    refine Seg.ctl rfl (fun _ => stepG_cond (t := true) rfl) ?_
    simp only [if_true]
    first
    | refine Seg.ctl rfl (fun _ => stepG_seq) ?_
    | refine Seg.ctl rfl (fun _ => stepG_region_end) ?_
    | (refine Seg.ctl rfl (fun _ => stepG_region) ?_; simp only [List.size_toArray, List.length_cons, List.length_nil, Nat.reduceAdd, Nat.zero_add, List.range, List.range.loop])
    | refine Seg.ctl rfl (fun _ => stepG_block) ?_
    | refine Seg.ctl rfl (fun _ => stepG_inBlock) ?_
    | refine Seg.ctl rfl (fun _ => stepG_ret') ?_
    | refine Seg.ctl rfl (fun _ => stepG_loop) ?_
    | refine Seg.ctl rfl (fun _ => stepG_inLoop) ?_
    | refine Seg.ctl rfl (fun _ => stepG_skip) ?_
    first
    | refine Seg.ctl rfl (fun _ => stepG_seq) ?_
    | refine Seg.ctl rfl (fun _ => stepG_region_end) ?_
    | (refine Seg.ctl rfl (fun _ => stepG_region) ?_; simp only [List.size_toArray, List.length_cons, List.length_nil, Nat.reduceAdd, Nat.zero_add, List.range, List.range.loop])
    | refine Seg.ctl rfl (fun _ => stepG_block) ?_
    | refine Seg.ctl rfl (fun _ => stepG_inBlock) ?_
    | refine Seg.ctl rfl (fun _ => stepG_ret') ?_
    | refine Seg.ctl rfl (fun _ => stepG_loop) ?_
    | refine Seg.ctl rfl (fun _ => stepG_inLoop) ?_
    | refine Seg.ctl rfl (fun _ => stepG_skip) ?_
    refine Seg.pure (.slice none 0 0) rfl rfl (by decide) (fun w => by simp [go_sem, execOp, Act.eval, Instr.fieldAt, Instr.sureAddr, resolve, invoke, builtin, Builtin.len_]) (fun w => by simp [go_sem, execOp, Act.eval, Instr.fieldAt, Instr.sureAddr, resolve, invoke, builtin, Builtin.len_]) ?_
    walk_nrm
    first
    | refine Seg.ctl rfl (fun _ => stepG_seq) ?_
    | refine Seg.ctl rfl (fun _ => stepG_region_end) ?_
    | (refine Seg.ctl rfl (fun _ => stepG_region) ?_; simp only [List.size_toArray, List.length_cons, List.length_nil, Nat.reduceAdd, Nat.zero_add, List.range, List.range.loop])
    | refine Seg.ctl rfl (fun _ => stepG_block) ?_
    | refine Seg.ctl rfl (fun _ => stepG_inBlock) ?_
    | refine Seg.ctl rfl (fun _ => stepG_ret') ?_
    | refine Seg.ctl rfl (fun _ => stepG_loop) ?_
    | refine Seg.ctl rfl (fun _ => stepG_inLoop) ?_
    | refine Seg.ctl rfl (fun _ => stepG_skip) ?_
    first
    | refine Seg.ctl rfl (fun _ => stepG_seq) ?_
    | refine Seg.ctl rfl (fun _ => stepG_region_end) ?_
    | (refine Seg.ctl rfl (fun _ => stepG_region) ?_; simp only [List.size_toArray, List.length_cons, List.length_nil, Nat.reduceAdd, Nat.zero_add, List.range, List.range.loop])
    | refine Seg.ctl rfl (fun _ => stepG_block) ?_
    | refine Seg.ctl rfl (fun _ => stepG_inBlock) ?_
    | refine Seg.ctl rfl (fun _ => stepG_ret') ?_
    | refine Seg.ctl rfl (fun _ => stepG_loop) ?_
    | refine Seg.ctl rfl (fun _ => stepG_inLoop) ?_
    | refine Seg.ctl rfl (fun _ => stepG_skip) ?_
    exact Seg.le (Seg.leave1 rfl Try.func47 rfl ⟨RX.refl .., OwnO.nil .., fun g hg => by simp [Value.ownBlock] at hg⟩) (by decide)
  ·
    refine Seg.eqNil (r := false) rfl rfl (by decide) rfl Try.underlying40 rfl (.inr ⟨_, _, _, rfl, rfl⟩) ?_
    walk_nrm
    first
    | refine Seg.ctl rfl (fun _ => stepG_seq) ?_
    | refine Seg.ctl rfl (fun _ => stepG_region_end) ?_
    | (refine Seg.ctl rfl (fun _ => stepG_region) ?_; simp only [List.size_toArray, List.length_cons, List.length_nil, Nat.reduceAdd, Nat.zero_add, List.range, List.range.loop])
    | refine Seg.ctl rfl (fun _ => stepG_block) ?_
    | refine Seg.ctl rfl (fun _ => stepG_inBlock) ?_
    | refine Seg.ctl rfl (fun _ => stepG_ret') ?_
    | refine Seg.ctl rfl (fun _ => stepG_loop) ?_
    | refine Seg.ctl rfl (fun _ => stepG_inLoop) ?_
    | refine Seg.ctl rfl (fun _ => stepG_skip) ?_
    refine Seg.ctl rfl (fun _ => stepG_cond (t := false) rfl) ?_
    simp only [if_false, Bool.false_eq_true]
    first
    | refine Seg.ctl rfl (fun _ => stepG_seq) ?_
    | refine Seg.ctl rfl (fun _ => stepG_region_end) ?_
    | (refine Seg.ctl rfl (fun _ => stepG_region) ?_; simp only [List.size_toArray, List.length_cons, List.length_nil, Nat.reduceAdd, Nat.zero_add, List.range, List.range.loop])
    | refine Seg.ctl rfl (fun _ => stepG_block) ?_
    | refine Seg.ctl rfl (fun _ => stepG_inBlock) ?_
    | refine Seg.ctl rfl (fun _ => stepG_ret') ?_
    | refine Seg.ctl rfl (fun _ => stepG_loop) ?_
    | refine Seg.ctl rfl (fun _ => stepG_inLoop) ?_
    | refine Seg.ctl rfl (fun _ => stepG_skip) ?_
    first
    | refine Seg.ctl rfl (fun _ => stepG_seq) ?_
    | refine Seg.ctl rfl (fun _ => stepG_region_end) ?_
    | (refine Seg.ctl rfl (fun _ => stepG_region) ?_; simp only [List.size_toArray, List.length_cons, List.length_nil, Nat.reduceAdd, Nat.zero_add, List.range, List.range.loop])
    | refine Seg.ctl rfl (fun _ => stepG_block) ?_
    | refine Seg.ctl rfl (fun _ => stepG_inBlock) ?_
    | refine Seg.ctl rfl (fun _ => stepG_ret') ?_
    | refine Seg.ctl rfl (fun _ => stepG_loop) ?_
    | refine Seg.ctl rfl (fun _ => stepG_inLoop) ?_
    | refine Seg.ctl rfl (fun _ => stepG_skip) ?_
    first
    | refine Seg.ctl rfl (fun _ => stepG_seq) ?_
    | refine Seg.ctl rfl (fun _ => stepG_region_end) ?_
    | (refine Seg.ctl rfl (fun _ => stepG_region) ?_; simp only [List.size_toArray, List.length_cons, List.length_nil, Nat.reduceAdd, Nat.zero_add, List.range, List.range.loop])
    | refine Seg.ctl rfl (fun _ => stepG_block) ?_
    | refine Seg.ctl rfl (fun _ => stepG_inBlock) ?_
    | refine Seg.ctl rfl (fun _ => stepG_ret') ?_
    | refine Seg.ctl rfl (fun _ => stepG_loop) ?_
    | refine Seg.ctl rfl (fun _ => stepG_inLoop) ?_
    | refine Seg.ctl rfl (fun _ => stepG_skip) ?_
    refine Seg.new hcn hn rfl rfl (by decide) (.cells #[] 3) (fun g => .slice (some ⟨g, 0, none⟩) 0 0) (fun w => ?_) (fun w => ?_) fun w1 o1 g r hg hm K => ?_
    · simp [go_sem, execOp, Act.eval, Instr.buildSlice, newRow, Instr.fill]
    · simp [go_sem, execOp, Act.eval, Instr.buildSlice, newRow, Instr.fill]
    walk_nrm
    refine Seg.pure (.slice (some ad) xs.length cp) rfl rfl (by decide) (fun w => by simp [go_sem, execOp, Act.eval, Instr.fieldAt, Instr.sureAddr, resolve, invoke, builtin, Builtin.len_]) (fun w => by simp [go_sem, execOp, Act.eval, Instr.fieldAt, Instr.sureAddr, resolve, invoke, builtin, Builtin.len_]) ?_
    walk_nrm
    by_cases hl0 : xs.length = 0
    ·
      have hx0 : xs = [] := List.eq_nil_of_length_eq_zero hl0
      subst hx0
      refine Seg.append0 (E := 3) _ _ _ rfl rfl (by decide) rfl _ Try.underlying40 Try.type3 rfl (Nat.le_refl 0) rfl ?_
      walk_nrm
      refine Seg.pure (.slice (some ⟨g, 0, none⟩) 0 0) rfl rfl (by decide) (fun w => by simp [go_sem, execOp, Act.eval, Instr.fieldAt, Instr.sureAddr, resolve, invoke, builtin, Builtin.len_]) (fun w => by simp [go_sem, execOp, Act.eval, Instr.fieldAt, Instr.sureAddr, resolve, invoke, builtin, Builtin.len_]) ?_
      walk_nrm
      first
      | refine Seg.ctl rfl (fun _ => stepG_seq) ?_
      | refine Seg.ctl rfl (fun _ => stepG_region_end) ?_
      | (refine Seg.ctl rfl (fun _ => stepG_region) ?_; simp only [List.size_toArray, List.length_cons, List.length_nil, Nat.reduceAdd, Nat.zero_add, List.range, List.range.loop])
      | refine Seg.ctl rfl (fun _ => stepG_block) ?_
      | refine Seg.ctl rfl (fun _ => stepG_inBlock) ?_
      | refine Seg.ctl rfl (fun _ => stepG_ret') ?_
      | refine Seg.ctl rfl (fun _ => stepG_loop) ?_
      | refine Seg.ctl rfl (fun _ => stepG_inLoop) ?_
      | refine Seg.ctl rfl (fun _ => stepG_skip) ?_
      first
      | refine Seg.ctl rfl (fun _ => stepG_seq) ?_
      | refine Seg.ctl rfl (fun _ => stepG_region_end) ?_
      | (refine Seg.ctl rfl (fun _ => stepG_region) ?_; simp only [List.size_toArray, List.length_cons, List.length_nil, Nat.reduceAdd, Nat.zero_add, List.range, List.range.loop])
      | refine Seg.ctl rfl (fun _ => stepG_block) ?_
      | refine Seg.ctl rfl (fun _ => stepG_inBlock) ?_
      | refine Seg.ctl rfl (fun _ => stepG_ret') ?_
      | refine Seg.ctl rfl (fun _ => stepG_loop) ?_
      | refine Seg.ctl rfl (fun _ => stepG_inLoop) ?_
      | refine Seg.ctl rfl (fun _ => stepG_skip) ?_
      exact Seg.le (Seg.leave1 rfl Try.func47 rfl ⟨r, ⟨⟨rfl, .inr ⟨g, 0, #[], rfl, by omega, K.eq, Nat.le_refl 0, by decide, rfl, rfl⟩⟩, fun g' e => by cases e; exact hm⟩, fun g' e => by cases e; exact hg⟩) (by decide)
    ·
      have hown : OwnO nf false w1 o1 3 1 (.slice (some ⟨g, 0, none⟩) 0 0) 0 [] := ⟨⟨rfl, .inr ⟨g, 0, #[], rfl, by omega, K.eq, Nat.le_refl 0, by decide, rfl, rfl⟩⟩, fun g' e => by cases e; exact hm⟩
      refine Seg.append (E := 3) (sz := 1) (m := xs.length) (news := xs) hcn (Nat.le_trans hn r.size) _ _ _ rfl rfl (by decide) rfl _ _ Try.underlying40 Try.type3 rfl rfl rfl (by decide) rfl hown rfl (by omega) (fun j u h => (hc j u h).rx r (by simp)) h1 (by have : maxLen = maxLen := rfl; simp only [maxLen]; omega) (by show (0 + xs.length) * 8 ≤ _; omega) (by omega) fun v' w2 o2 r2 h2 h3 => ?_
      rw [Nat.zero_add, List.nil_append] at h2
      walk_nrm
      refine Seg.pure v' rfl rfl (by decide) (fun w => by simp [execOp, Act.eval]) (fun w => by simp [execOp, Act.eval]) ?_
      walk_nrm
      first
      | refine Seg.ctl rfl (fun _ => stepG_seq) ?_
      | refine Seg.ctl rfl (fun _ => stepG_region_end) ?_
      | (refine Seg.ctl rfl (fun _ => stepG_region) ?_; simp only [List.size_toArray, List.length_cons, List.length_nil, Nat.reduceAdd, Nat.zero_add, List.range, List.range.loop])
      | refine Seg.ctl rfl (fun _ => stepG_block) ?_
      | refine Seg.ctl rfl (fun _ => stepG_inBlock) ?_
      | refine Seg.ctl rfl (fun _ => stepG_ret') ?_
      | refine Seg.ctl rfl (fun _ => stepG_loop) ?_
      | refine Seg.ctl rfl (fun _ => stepG_inLoop) ?_
      | refine Seg.ctl rfl (fun _ => stepG_skip) ?_
      first
      | refine Seg.ctl rfl (fun _ => stepG_seq) ?_
      | refine Seg.ctl rfl (fun _ => stepG_region_end) ?_
      | (refine Seg.ctl rfl (fun _ => stepG_region) ?_; simp only [List.size_toArray, List.length_cons, List.length_nil, Nat.reduceAdd, Nat.zero_add, List.range, List.range.loop])
      | refine Seg.ctl rfl (fun _ => stepG_block) ?_
      | refine Seg.ctl rfl (fun _ => stepG_inBlock) ?_
      | refine Seg.ctl rfl (fun _ => stepG_ret') ?_
      | refine Seg.ctl rfl (fun _ => stepG_loop) ?_
      | refine Seg.ctl rfl (fun _ => stepG_inLoop) ?_
      | refine Seg.ctl rfl (fun _ => stepG_skip) ?_
      have hfr : FreshO w v' := fun g' e => by
        rcases h3 with h3 | h3
        · rw [h3] at e; cases e; exact hg
        · have := h3 g' e; have := r.size; omega
      exact Seg.le (Seg.leave1 rfl Try.func47 rfl ⟨r.past r2 fun g' e => by cases e; exact hg, h2, hfr⟩) (by decide)
end Go.Proofs.Ytjkfnjjkjhggfaa
set_option linter.unusedSimpArgs false
set_option linter.unusedVariables false
namespace Go.Proofs.Ytjkfnjjkjhggfaa
open Go.Conc Go.RowKit

theorem ownO_rx_none {nf c : Nat} (hcn : c < nf) {w w1 : World} {o o1 : Who} {E sz : Nat} {v : Value} {n : Nat} {xs : List Value} (h : OwnO nf false w o E sz v n xs) (r : RX nf c false none w o w1 o1) : OwnO nf false w1 o1 E sz v n xs := h.rx hcn r (by simp)
theorem copyRoute_o {nf c : Nat} (hcn : c < nf) {w : World} {o : Who} (hn : nf ≤ w.heap.size) {f b l : Int} {p q : Value} {A B : List Value} (hp : SrcO nf c false w o p A) (hq : SrcO nf c false w o q B) (hA : A.length ≤ 1000000) (hB : B.length ≤ 1000000) :
    CallsO Try.prog nf c false 900 35 #[.agg #[.int .i64 f, .int .i64 b, p, .int .i64 l, q]] w o fun v w' o' => RX nf c false none w o w' o' ∧
      ∃ p' q', v = .agg #[.int .i64 f, .int .i64 b, p', .int .i64 l, q'] ∧ OwnO nf false w' o' 3 1 p' A.length A ∧ FreshO w p' ∧ OwnO nf false w' o' 3 1 q' B.length B ∧ FreshO w q' := by
  refine callsO_of Try.func35 (by rfl) fun u cs => ?_
  simp only [Try.ntmps35, List.size_toArray, List.length_cons, List.length_nil, Nat.reduceAdd, Nat.reduceSub, Array.replicate_succ, Array.replicate_zero, List.push_toArray, List.append_toArray, List.nil_append, List.cons_append]
  first
  | refine Seg.ctl rfl (fun _ => stepG_seq) ?_
  | refine Seg.ctl rfl (fun _ => stepG_region_end) ?_
  | (refine Seg.ctl rfl (fun _ => stepG_region) ?_; simp only [List.size_toArray, List.length_cons, List.length_nil, Nat.reduceAdd, Nat.zero_add, List.range, List.range.loop])
  | refine Seg.ctl rfl (fun _ => stepG_block) ?_
  | refine Seg.ctl rfl (fun _ => stepG_inBlock) ?_
  | refine Seg.ctl rfl (fun _ => stepG_ret') ?_
  | refine Seg.ctl rfl (fun _ => stepG_loop) ?_
  | refine Seg.ctl rfl (fun _ => stepG_inLoop) ?_
  | refine Seg.ctl rfl (fun _ => stepG_skip) ?_
  first
  | refine Seg.ctl rfl (fun _ => stepG_seq) ?_
  | refine Seg.ctl rfl (fun _ => stepG_region_end) ?_
  | (refine Seg.ctl rfl (fun _ => stepG_region) ?_; simp only [List.size_toArray, List.length_cons, List.length_nil, Nat.reduceAdd, Nat.zero_add, List.range, List.range.loop])
  | refine Seg.ctl rfl (fun _ => stepG_block) ?_
  | refine Seg.ctl rfl (fun _ => stepG_inBlock) ?_
  | refine Seg.ctl rfl (fun _ => stepG_ret') ?_
  | refine Seg.ctl rfl (fun _ => stepG_loop) ?_
  | refine Seg.ctl rfl (fun _ => stepG_inLoop) ?_
  | refine Seg.ctl rfl (fun _ => stepG_skip) ?_
  refine Seg.new hcn hn rfl rfl (by decide) (.cells #[.int .i64 f, .int .i64 b, p, .int .i64 l, q] 64) (fun g => .pointer (some ⟨g, 0, none⟩)) (fun w => ?_) (fun w => ?_) fun w1 o1 g1 r1 hg1 hm1 K1 => ?_
  · simp [go_sem, execOp, Act.eval, Instr.box, newVar, newRow, Value.cells]
  · simp [go_sem, execOp, Act.eval, Instr.box, newVar, newRow, Value.cells]
  walk_nrm
  refine Seg.new hcn (Nat.le_trans hn r1.size) rfl rfl (by decide) (.cells #[.int .i64 0, .int .i64 0, .slice none 0 0, .int .i64 0, .slice none 0 0] 64) (fun g => .pointer (some ⟨g, 0, none⟩)) (fun w => ?_) (fun w => ?_) fun w2 o2 g2 r2 hg2 hm2 K2 => ?_
  · simp [go_sem, execOp, Act.eval, Instr.alloc, newVar, newRow, Value.cells]
  · simp [go_sem, execOp, Act.eval, Instr.alloc, newVar, newRow, Value.cells]
  walk_nrm
  first
  | refine Seg.ctl rfl (fun _ => stepG_seq) ?_
  | refine Seg.ctl rfl (fun _ => stepG_region_end) ?_
  | (refine Seg.ctl rfl (fun _ => stepG_region) ?_; simp only [List.size_toArray, List.length_cons, List.length_nil, Nat.reduceAdd, Nat.zero_add, List.range, List.range.loop])
  | refine Seg.ctl rfl (fun _ => stepG_block) ?_
  | refine Seg.ctl rfl (fun _ => stepG_inBlock) ?_
  | refine Seg.ctl rfl (fun _ => stepG_ret') ?_
  | refine Seg.ctl rfl (fun _ => stepG_loop) ?_
  | refine Seg.ctl rfl (fun _ => stepG_inLoop) ?_
  | refine Seg.ctl rfl (fun _ => stepG_skip) ?_
  first
  | refine Seg.ctl rfl (fun _ => stepG_seq) ?_
  | refine Seg.ctl rfl (fun _ => stepG_region_end) ?_
  | (refine Seg.ctl rfl (fun _ => stepG_region) ?_; simp only [List.size_toArray, List.length_cons, List.length_nil, Nat.reduceAdd, Nat.zero_add, List.range, List.range.loop])
  | refine Seg.ctl rfl (fun _ => stepG_block) ?_
  | refine Seg.ctl rfl (fun _ => stepG_inBlock) ?_
  | refine Seg.ctl rfl (fun _ => stepG_ret') ?_
  | refine Seg.ctl rfl (fun _ => stepG_loop) ?_
  | refine Seg.ctl rfl (fun _ => stepG_inLoop) ?_
  | refine Seg.ctl rfl (fun _ => stepG_skip) ?_
  have hn2 : nf ≤ w2.heap.size := Nat.le_trans hn (Nat.le_trans r1.size r2.size)
  have h12 : g1 ≠ g2 := by have := K1.lt; omega
  have hn2' : nf ≤ g2 := by have := r1.size; omega
  have hw2 : w.heap.size ≤ g2 := by have := r1.size; omega
  have hm1 : o2 g1 = false := (r2.own g1 K1.lt).trans hm1
  have K1 := K1.rx r2 (by simp)
  have hp := (hp.rx r1 rfl).rx r2 rfl
  have hq := (hq.rx r1 rfl).rx r2 rfl
  have R2 : RX nf c false none w o w2 o2 := r1.trans r2
  have hn1 : nf ≤ g1 := by omega
  clear r1 r2
  refine Seg.le (n := 60 + 1 + 10 * (40 + 1) + 1) (Seg.region (N := 40) (n := 60) (w0 := w2) (fn := 35) (by decide) (by kernel_rfl) fun w3 o3 r3 => ?_) (by decide)
  have hO : OldO nf c w2 w3 := OldO.ro ⟨rfl, rfl, rfl, hn2, fun _ _ _ => rfl⟩ r3
  have hm1 : o3 g1 = false := (r3.own g1 K1.lt).trans hm1
  have hm2 : o3 g2 = false := (r3.own g2 K2.lt).trans hm2
  have K1 := K1.rx (r3.rx none) (by simp)
  have K2 := K2.rx (r3.rx none) (by simp)
  have hp := hp.rx (r3.rx none) rfl
  have hq := hq.rx (r3.rx none) rfl
  have R3 : RX nf c false none w o w3 o3 := R2.trans (r3.rx none)
  clear R2 r3
  simp only [List.size_toArray, List.length_cons, List.length_nil, Nat.reduceAdd, Nat.zero_add]
  refine anyO_take (fun _ _ _ _ _ x r => x.rely r) (i := 0) (.pointer (some ⟨g1, 2, none⟩)) rfl (by kernel_rfl) (by kernel_rfl) (by kernel_rfl) (⟨rfl, fun w _ _ => ⟨by simp [go_sem, execOp, Act.eval, Instr.fieldAt, Instr.sureAddr], by simp [go_sem, execOp, Act.eval, Instr.fieldAt, Instr.sureAddr]⟩⟩) ‹OldO _ _ _ _› ?_
  try walk_nrm
  refine anyO_take (fun _ _ _ _ _ x r => x.rely r) (i := 3) (.pointer (some ⟨g1, 4, none⟩)) rfl (by kernel_rfl) (by kernel_rfl) (by kernel_rfl) (⟨rfl, fun w _ _ => ⟨by simp [go_sem, execOp, Act.eval, Instr.fieldAt, Instr.sureAddr], by simp [go_sem, execOp, Act.eval, Instr.fieldAt, Instr.sureAddr]⟩⟩) ‹OldO _ _ _ _› ?_
  try walk_nrm
  let F : World → Who → Prop := fun w4 o4 => Kn nf c false w4 o4 g1 (.cells #[.int .i64 f, .int .i64 b, p, .int .i64 l, q] 64) ∧ Kn nf c false w4 o4 g2 (.cells #[.int .i64 0, .int .i64 0, .slice none 0 0, .int .i64 0, .slice none 0 0] 64) ∧ o4 g1 = false ∧ o4 g2 = false ∧ SrcO nf c false w4 o4 p A ∧ SrcO nf c false w4 o4 q B ∧ RX nf c false none w o w4 o4 ∧ OldO nf c w2 w4
  have Frx : ∀ {w4 o4 w5 o5}, F w4 o4 → RX nf c false none w4 o4 w5 o5 → F w5 o5 := fun ⟨a1, a2, a3, a4, a5, a6, a7, a8⟩ r => ⟨a1.rx r (by simp), a2.rx r (by simp), (r.own _ a1.lt).trans a3, (r.own _ a2.lt).trans a4, a5.rx r rfl, a6.rx r rfl, a7.trans r, a8.rx r (by simp)⟩
  have hF : F w3 o3 := ⟨K1, K2, hm1, hm2, hp, hq, R3, hO⟩
  clear K1 K2 hm1 hm2 hp hq R3 hO
  refine anyO_all (rs := [1, 4]) (by kernel_rfl) (by simp) (fun i hi => ?_)
  simp only [List.mem_cons, List.not_mem_nil, or_false] at hi
  rcases hi with rfl | rfl
  ·
    refine OpO.still p rfl rfl (fun w5 o5 r => load_law hcn rfl rfl (.one Try.underlying40 rfl) ((hF.1.rx (r.rx none) (by simp)).cks (vs := [p]) rfl)) (fun w5 o5 r => ?_)
    replace hF := Frx hF (r.rx none)
    clear r
    walk_nrm
    refine anyO_all (rs := [2, 4]) (by kernel_rfl) (by simp) (fun i hi => ?_)
    simp only [List.mem_cons, List.not_mem_nil, or_false] at hi
    rcases hi with rfl | rfl
    ·
      refine OpO.call (vs := #[p]) rfl rfl rfl Try.func47 (by kernel_rfl) rfl (by simp [Act.eval]) (clone_o hcn hF.2.2.2.2.2.2.2.size hF.2.2.2.2.1 hA) (fun p' w5 o5 h => ?_)
      have hfp : ∀ g, p'.ownBlock = some g → w.heap.size ≤ g ∧ g ≠ g1 ∧ g ≠ g2 := fun g e => by have := h.2.2 g e; have := hF.1.lt; have := hF.2.1.lt; have := hF.2.2.2.2.2.2.1.size; omega
      replace hF := Frx hF h.1
      refine ⟨hF.2.2.2.2.2.2.2, ?_⟩
      have hP := h.2.1
      clear h
      obtain ⟨ap, cpp, rfl⟩ := hP.sl
      walk_nrm
      refine anyO_all (rs := [4]) (by kernel_rfl) (by simp) (fun i hi => ?_)
      simp only [List.mem_cons, List.not_mem_nil, or_false] at hi
      subst hi
      refine OpO.still q rfl rfl (fun w5 o5 r => load_law hcn rfl rfl (.one Try.underlying40 rfl) ((hF.1.rx (r.rx none) (by simp)).cks (vs := [q]) rfl)) (fun w5 o5 r => ?_)
      replace hF := Frx hF (r.rx none)
      try replace hP := hP.rx hcn (r.rx none) (by simp)
      clear r
      walk_nrm
      have hO := hF.2.2.2.2.2.2.2
      refine anyO_take (fun _ _ _ _ _ x r => x.rely r) (i := 6) (.pointer (some ⟨g1, 2, none⟩)) rfl (by kernel_rfl) (by kernel_rfl) (by kernel_rfl) (⟨rfl, fun w _ _ => ⟨by simp [go_sem, execOp, Act.eval, Instr.fieldAt, Instr.sureAddr], by simp [go_sem, execOp, Act.eval, Instr.fieldAt, Instr.sureAddr]⟩⟩) ‹OldO _ _ _ _› ?_
      try walk_nrm
      clear hO
      refine anyO_all (rs := [5]) (by kernel_rfl) (by simp) (fun i hi => ?_)
      simp only [List.mem_cons, List.not_mem_nil, or_false] at hi
      subst hi
      refine OpO.call (vs := #[q]) rfl rfl rfl Try.func47 (by kernel_rfl) rfl (by simp [Act.eval]) (clone_o hcn hF.2.2.2.2.2.2.2.size hF.2.2.2.2.2.1 hB) (fun q' w5 o5 h => ?_)
      have hfq : ∀ g, q'.ownBlock = some g → w.heap.size ≤ g ∧ g ≠ g1 ∧ g ≠ g2 := fun g e => by have := h.2.2 g e; have := hF.1.lt; have := hF.2.1.lt; have := hF.2.2.2.2.2.2.1.size; omega
      replace hF := Frx hF h.1
      replace hP := hP.rx hcn h.1 (by simp)
      refine ⟨hF.2.2.2.2.2.2.2, ?_⟩
      have hQ := h.2.1
      clear h
      obtain ⟨aq, cpq, rfl⟩ := hQ.sl
      walk_nrm
      refine anyO_all (rs := [7]) (by kernel_rfl) (by simp) (fun i hi => ?_)
      simp only [List.mem_cons, List.not_mem_nil, or_false] at hi
      subst hi
      obtain ⟨K1, K2, hm1, hm2, hp, hq, R3, hO⟩ := hF
      refine OpO.eff rfl rfl (Eff.store (g := g1) (off := 2) (vs := [.slice ap A.length cpp]) hcn rfl rfl rfl Try.type40 rfl (by simp [Value.oneCell']) K1 hn1 hm1 (by simp)) (fun v w6 o6 h => ?_)
      obtain ⟨rfl, r6, hm1, K1⟩ := h
      replace K1 : Kn nf c false w6 o6 g1 (.cells #[.int .i64 f, .int .i64 b, .slice ap A.length cpp, .int .i64 l, q] 64) := K1
      have hx1 : ∀ g, some g1 = some g → nf ≤ g := fun g e => by cases e; exact hn1
      replace hm2 := (r6.own g2 K2.lt).trans hm2
      replace K2 := K2.rx r6 (by simp [Ne.symm h12])
      replace hP := hP.rx hcn r6 (fun g e => by have := hfp g e; simp; omega)
      replace hQ := hQ.rx hcn r6 (fun g e => by have := hfq g e; simp; omega)
      replace R3 := R3.past r6 (fun g e => by cases e; exact hg1)
      replace hO := hO.rx r6 hx1
      clear hp hq r6
      walk_nrm
      refine anyO_take (fun _ _ _ _ _ x r => x.rely r) (i := 8) (.pointer (some ⟨g1, 4, none⟩)) rfl (by kernel_rfl) (by kernel_rfl) (by kernel_rfl) (⟨rfl, fun w _ _ => ⟨by simp [go_sem, execOp, Act.eval, Instr.fieldAt, Instr.sureAddr], by simp [go_sem, execOp, Act.eval, Instr.fieldAt, Instr.sureAddr]⟩⟩) ‹OldO _ _ _ _› ?_
      try walk_nrm
      refine anyO_all (rs := [9]) (by kernel_rfl) (by simp) (fun i hi => ?_)
      simp only [List.mem_cons, List.not_mem_nil, or_false] at hi
      subst hi
      refine OpO.eff rfl rfl (Eff.store (g := g1) (off := 4) (vs := [.slice aq B.length cpq]) hcn rfl rfl rfl Try.type40 rfl (by simp [Value.oneCell']) K1 hn1 hm1 (by simp)) (fun v w7 o7 h => ?_)
      obtain ⟨rfl, r7, hm1, K1⟩ := h
      replace K1 : Kn nf c false w7 o7 g1 (.cells #[.int .i64 f, .int .i64 b, .slice ap A.length cpp, .int .i64 l, .slice aq B.length cpq] 64) := K1
      replace hm2 := (r7.own g2 K2.lt).trans hm2
      replace K2 := K2.rx r7 (by simp [Ne.symm h12])
      replace hP := hP.rx hcn r7 (fun g e => by have := hfp g e; simp; omega)
      replace hQ := hQ.rx hcn r7 (fun g e => by have := hfq g e; simp; omega)
      replace R3 := R3.past r7 (fun g e => by cases e; exact hg1)
      clear hO r7
      walk_nrm
      refine anyO_done (by kernel_rfl) ?_ _
      first
      | refine Seg.ctl rfl (fun _ => stepG_seq) ?_
      | refine Seg.ctl rfl (fun _ => stepG_region_end) ?_
      | (refine Seg.ctl rfl (fun _ => stepG_region) ?_; simp only [List.size_toArray, List.length_cons, List.length_nil, Nat.reduceAdd, Nat.zero_add, List.range, List.range.loop])
      | refine Seg.ctl rfl (fun _ => stepG_block) ?_
      | refine Seg.ctl rfl (fun _ => stepG_inBlock) ?_
      | refine Seg.ctl rfl (fun _ => stepG_ret') ?_
      | refine Seg.ctl rfl (fun _ => stepG_loop) ?_
      | refine Seg.ctl rfl (fun _ => stepG_inLoop) ?_
      | refine Seg.ctl rfl (fun _ => stepG_skip) ?_
      first
      | refine Seg.ctl rfl (fun _ => stepG_seq) ?_
      | refine Seg.ctl rfl (fun _ => stepG_region_end) ?_
      | (refine Seg.ctl rfl (fun _ => stepG_region) ?_; simp only [List.size_toArray, List.length_cons, List.length_nil, Nat.reduceAdd, Nat.zero_add, List.range, List.range.loop])
      | refine Seg.ctl rfl (fun _ => stepG_block) ?_
      | refine Seg.ctl rfl (fun _ => stepG_inBlock) ?_
      | refine Seg.ctl rfl (fun _ => stepG_ret') ?_
      | refine Seg.ctl rfl (fun _ => stepG_loop) ?_
      | refine Seg.ctl rfl (fun _ => stepG_inLoop) ?_
      | refine Seg.ctl rfl (fun _ => stepG_skip) ?_
      refine Seg.load hcn (vs := [.int .i64 f, .int .i64 b, .slice ap A.length cpp, .int .i64 l, .slice aq B.length cpq]) rfl rfl (by decide) rfl rfl (.agg Try.underlying64 rfl Try.type64 rfl (by simp)) (K1.cks rfl) ?_
      walk_nrm
      refine Seg.store (g := g2) (off := 0) (vs := [.int .i64 f, .int .i64 b, .slice ap A.length cpp, .int .i64 l, .slice aq B.length cpq]) hcn rfl rfl (by decide) rfl rfl rfl Try.type64 rfl (by simp [Value.oneCell']) K2 hn2' hm2 (by simp) fun w8 o8 r8 hm2 K2 => ?_
      replace K2 : Kn nf c false w8 o8 g2 (.cells #[.int .i64 f, .int .i64 b, .slice ap A.length cpp, .int .i64 l, .slice aq B.length cpq] 64) := K2
      replace hP := hP.rx hcn r8 (fun g e => by have := hfp g e; simp; omega)
      replace hQ := hQ.rx hcn r8 (fun g e => by have := hfq g e; simp; omega)
      replace R3 := R3.past r8 (fun g e => by cases e; exact hw2)
      walk_nrm
      first
      | refine Seg.ctl rfl (fun _ => stepG_seq) ?_
      | refine Seg.ctl rfl (fun _ => stepG_region_end) ?_
      | (refine Seg.ctl rfl (fun _ => stepG_region) ?_; simp only [List.size_toArray, List.length_cons, List.length_nil, Nat.reduceAdd, Nat.zero_add, List.range, List.range.loop])
      | refine Seg.ctl rfl (fun _ => stepG_block) ?_
      | refine Seg.ctl rfl (fun _ => stepG_inBlock) ?_
      | refine Seg.ctl rfl (fun _ => stepG_ret') ?_
      | refine Seg.ctl rfl (fun _ => stepG_loop) ?_
      | refine Seg.ctl rfl (fun _ => stepG_inLoop) ?_
      | refine Seg.ctl rfl (fun _ => stepG_skip) ?_
      first
      | refine Seg.ctl rfl (fun _ => stepG_seq) ?_
      | refine Seg.ctl rfl (fun _ => stepG_region_end) ?_
      | (refine Seg.ctl rfl (fun _ => stepG_region) ?_; simp only [List.size_toArray, List.length_cons, List.length_nil, Nat.reduceAdd, Nat.zero_add, List.range, List.range.loop])
      | refine Seg.ctl rfl (fun _ => stepG_block) ?_
      | refine Seg.ctl rfl (fun _ => stepG_inBlock) ?_
      | refine Seg.ctl rfl (fun _ => stepG_ret') ?_
      | refine Seg.ctl rfl (fun _ => stepG_loop) ?_
      | refine Seg.ctl rfl (fun _ => stepG_inLoop) ?_
      | refine Seg.ctl rfl (fun _ => stepG_skip) ?_
      exact Seg.le (Seg.leaveCell (A := ⟨g2, 0, none⟩) (vs := [.int .i64 f, .int .i64 b, .slice ap A.length cpp, .int .i64 l, .slice aq B.length cpq]) hcn rfl Try.func35 rfl rfl (.agg Try.underlying64 rfl Try.type64 rfl (by simp)) (K2.cks rfl) fun w9 o9 r9 => ⟨R3.trans (r9.rx none), _, _, rfl, hP.rx hcn (r9.rx none) (by simp), fun g e => (hfp g e).1, hQ.rx hcn (r9.rx none) (by simp), fun g e => (hfq g e).1⟩) (by decide)
    ·
      refine OpO.still q rfl rfl (fun w5 o5 r => load_law hcn rfl rfl (.one Try.underlying40 rfl) ((hF.1.rx (r.rx none) (by simp)).cks (vs := [q]) rfl)) (fun w5 o5 r => ?_)
      replace hF := Frx hF (r.rx none)
      try replace hP := hP.rx hcn (r.rx none) (by simp)
      clear r
      walk_nrm
      refine anyO_all (rs := [2]) (by kernel_rfl) (by simp) (fun i hi => ?_)
      simp only [List.mem_cons, List.not_mem_nil, or_false] at hi
      subst hi
      refine OpO.call (vs := #[p]) rfl rfl rfl Try.func47 (by kernel_rfl) rfl (by simp [Act.eval]) (clone_o hcn hF.2.2.2.2.2.2.2.size hF.2.2.2.2.1 hA) (fun p' w5 o5 h => ?_)
      have hfp : ∀ g, p'.ownBlock = some g → w.heap.size ≤ g ∧ g ≠ g1 ∧ g ≠ g2 := fun g e => by have := h.2.2 g e; have := hF.1.lt; have := hF.2.1.lt; have := hF.2.2.2.2.2.2.1.size; omega
      replace hF := Frx hF h.1
      refine ⟨hF.2.2.2.2.2.2.2, ?_⟩
      have hP := h.2.1
      clear h
      obtain ⟨ap, cpp, rfl⟩ := hP.sl
      walk_nrm
      have hO := hF.2.2.2.2.2.2.2
      refine anyO_take (fun _ _ _ _ _ x r => x.rely r) (i := 6) (.pointer (some ⟨g1, 2, none⟩)) rfl (by kernel_rfl) (by kernel_rfl) (by kernel_rfl) (⟨rfl, fun w _ _ => ⟨by simp [go_sem, execOp, Act.eval, Instr.fieldAt, Instr.sureAddr], by simp [go_sem, execOp, Act.eval, Instr.fieldAt, Instr.sureAddr]⟩⟩) ‹OldO _ _ _ _› ?_
      try walk_nrm
      clear hO
      refine anyO_all (rs := [5]) (by kernel_rfl) (by simp) (fun i hi => ?_)
      simp only [List.mem_cons, List.not_mem_nil, or_false] at hi
      subst hi
      refine OpO.call (vs := #[q]) rfl rfl rfl Try.func47 (by kernel_rfl) rfl (by simp [Act.eval]) (clone_o hcn hF.2.2.2.2.2.2.2.size hF.2.2.2.2.2.1 hB) (fun q' w5 o5 h => ?_)
      have hfq : ∀ g, q'.ownBlock = some g → w.heap.size ≤ g ∧ g ≠ g1 ∧ g ≠ g2 := fun g e => by have := h.2.2 g e; have := hF.1.lt; have := hF.2.1.lt; have := hF.2.2.2.2.2.2.1.size; omega
      replace hF := Frx hF h.1
      replace hP := hP.rx hcn h.1 (by simp)
      refine ⟨hF.2.2.2.2.2.2.2, ?_⟩
      have hQ := h.2.1
      clear h
      obtain ⟨aq, cpq, rfl⟩ := hQ.sl
      walk_nrm
      refine anyO_all (rs := [7]) (by kernel_rfl) (by simp) (fun i hi => ?_)
      simp only [List.mem_cons, List.not_mem_nil, or_false] at hi
      subst hi
      obtain ⟨K1, K2, hm1, hm2, hp, hq, R3, hO⟩ := hF
      refine OpO.eff rfl rfl (Eff.store (g := g1) (off := 2) (vs := [.slice ap A.length cpp]) hcn rfl rfl rfl Try.type40 rfl (by simp [Value.oneCell']) K1 hn1 hm1 (by simp)) (fun v w6 o6 h => ?_)
      obtain ⟨rfl, r6, hm1, K1⟩ := h
      replace K1 : Kn nf c false w6 o6 g1 (.cells #[.int .i64 f, .int .i64 b, .slice ap A.length cpp, .int .i64 l, q] 64) := K1
      have hx1 : ∀ g, some g1 = some g → nf ≤ g := fun g e => by cases e; exact hn1
      replace hm2 := (r6.own g2 K2.lt).trans hm2
      replace K2 := K2.rx r6 (by simp [Ne.symm h12])
      replace hP := hP.rx hcn r6 (fun g e => by have := hfp g e; simp; omega)
      replace hQ := hQ.rx hcn r6 (fun g e => by have := hfq g e; simp; omega)
      replace R3 := R3.past r6 (fun g e => by cases e; exact hg1)
      replace hO := hO.rx r6 hx1
      clear hp hq r6
      walk_nrm
      refine anyO_take (fun _ _ _ _ _ x r => x.rely r) (i := 8) (.pointer (some ⟨g1, 4, none⟩)) rfl (by kernel_rfl) (by kernel_rfl) (by kernel_rfl) (⟨rfl, fun w _ _ => ⟨by simp [go_sem, execOp, Act.eval, Instr.fieldAt, Instr.sureAddr], by simp [go_sem, execOp, Act.eval, Instr.fieldAt, Instr.sureAddr]⟩⟩) ‹OldO _ _ _ _› ?_
      try walk_nrm
      refine anyO_all (rs := [9]) (by kernel_rfl) (by simp) (fun i hi => ?_)
      simp only [List.mem_cons, List.not_mem_nil, or_false] at hi
      subst hi
      refine OpO.eff rfl rfl (Eff.store (g := g1) (off := 4) (vs := [.slice aq B.length cpq]) hcn rfl rfl rfl Try.type40 rfl (by simp [Value.oneCell']) K1 hn1 hm1 (by simp)) (fun v w7 o7 h => ?_)
      obtain ⟨rfl, r7, hm1, K1⟩ := h
      replace K1 : Kn nf c false w7 o7 g1 (.cells #[.int .i64 f, .int .i64 b, .slice ap A.length cpp, .int .i64 l, .slice aq B.length cpq] 64) := K1
      replace hm2 := (r7.own g2 K2.lt).trans hm2
      replace K2 := K2.rx r7 (by simp [Ne.symm h12])
      replace hP := hP.rx hcn r7 (fun g e => by have := hfp g e; simp; omega)
      replace hQ := hQ.rx hcn r7 (fun g e => by have := hfq g e; simp; omega)
      replace R3 := R3.past r7 (fun g e => by cases e; exact hg1)
      clear hO r7
      walk_nrm
      refine anyO_done (by kernel_rfl) ?_ _
      first
      | refine Seg.ctl rfl (fun _ => stepG_seq) ?_
      | refine Seg.ctl rfl (fun _ => stepG_region_end) ?_
      | (refine Seg.ctl rfl (fun _ => stepG_region) ?_; simp only [List.size_toArray, List.length_cons, List.length_nil, Nat.reduceAdd, Nat.zero_add, List.range, List.range.loop])
      | refine Seg.ctl rfl (fun _ => stepG_block) ?_
      | refine Seg.ctl rfl (fun _ => stepG_inBlock) ?_
      | refine Seg.ctl rfl (fun _ => stepG_ret') ?_
      | refine Seg.ctl rfl (fun _ => stepG_loop) ?_
      | refine Seg.ctl rfl (fun _ => stepG_inLoop) ?_
      | refine Seg.ctl rfl (fun _ => stepG_skip) ?_
      first
      | refine Seg.ctl rfl (fun _ => stepG_seq) ?_
      | refine Seg.ctl rfl (fun _ => stepG_region_end) ?_
      | (refine Seg.ctl rfl (fun _ => stepG_region) ?_; simp only [List.size_toArray, List.length_cons, List.length_nil, Nat.reduceAdd, Nat.zero_add, List.range, List.range.loop])
      | refine Seg.ctl rfl (fun _ => stepG_block) ?_
      | refine Seg.ctl rfl (fun _ => stepG_inBlock) ?_
      | refine Seg.ctl rfl (fun _ => stepG_ret') ?_
      | refine Seg.ctl rfl (fun _ => stepG_loop) ?_
      | refine Seg.ctl rfl (fun _ => stepG_inLoop) ?_
      | refine Seg.ctl rfl (fun _ => stepG_skip) ?_
      refine Seg.load hcn (vs := [.int .i64 f, .int .i64 b, .slice ap A.length cpp, .int .i64 l, .slice aq B.length cpq]) rfl rfl (by decide) rfl rfl (.agg Try.underlying64 rfl Try.type64 rfl (by simp)) (K1.cks rfl) ?_
      walk_nrm
      refine Seg.store (g := g2) (off := 0) (vs := [.int .i64 f, .int .i64 b, .slice ap A.length cpp, .int .i64 l, .slice aq B.length cpq]) hcn rfl rfl (by decide) rfl rfl rfl Try.type64 rfl (by simp [Value.oneCell']) K2 hn2' hm2 (by simp) fun w8 o8 r8 hm2 K2 => ?_
      replace K2 : Kn nf c false w8 o8 g2 (.cells #[.int .i64 f, .int .i64 b, .slice ap A.length cpp, .int .i64 l, .slice aq B.length cpq] 64) := K2
      replace hP := hP.rx hcn r8 (fun g e => by have := hfp g e; simp; omega)
      replace hQ := hQ.rx hcn r8 (fun g e => by have := hfq g e; simp; omega)
      replace R3 := R3.past r8 (fun g e => by cases e; exact hw2)
      walk_nrm
      first
      | refine Seg.ctl rfl (fun _ => stepG_seq) ?_
      | refine Seg.ctl rfl (fun _ => stepG_region_end) ?_
      | (refine Seg.ctl rfl (fun _ => stepG_region) ?_; simp only [List.size_toArray, List.length_cons, List.length_nil, Nat.reduceAdd, Nat.zero_add, List.range, List.range.loop])
      | refine Seg.ctl rfl (fun _ => stepG_block) ?_
      | refine Seg.ctl rfl (fun _ => stepG_inBlock) ?_
      | refine Seg.ctl rfl (fun _ => stepG_ret') ?_
      | refine Seg.ctl rfl (fun _ => stepG_loop) ?_
      | refine Seg.ctl rfl (fun _ => stepG_inLoop) ?_
      | refine Seg.ctl rfl (fun _ => stepG_skip) ?_
      first
      | refine Seg.ctl rfl (fun _ => stepG_seq) ?_
      | refine Seg.ctl rfl (fun _ => stepG_region_end) ?_
      | (refine Seg.ctl rfl (fun _ => stepG_region) ?_; simp only [List.size_toArray, List.length_cons, List.length_nil, Nat.reduceAdd, Nat.zero_add, List.range, List.range.loop])
      | refine Seg.ctl rfl (fun _ => stepG_block) ?_
      | refine Seg.ctl rfl (fun _ => stepG_inBlock) ?_
      | refine Seg.ctl rfl (fun _ => stepG_ret') ?_
      | refine Seg.ctl rfl (fun _ => stepG_loop) ?_
      | refine Seg.ctl rfl (fun _ => stepG_inLoop) ?_
      | refine Seg.ctl rfl (fun _ => stepG_skip) ?_
      exact Seg.le (Seg.leaveCell (A := ⟨g2, 0, none⟩) (vs := [.int .i64 f, .int .i64 b, .slice ap A.length cpp, .int .i64 l, .slice aq B.length cpq]) hcn rfl Try.func35 rfl rfl (.agg Try.underlying64 rfl Try.type64 rfl (by simp)) (K2.cks rfl) fun w9 o9 r9 => ⟨R3.trans (r9.rx none), _, _, rfl, hP.rx hcn (r9.rx none) (by simp), fun g e => (hfp g e).1, hQ.rx hcn (r9.rx none) (by simp), fun g e => (hfq g e).1⟩) (by decide)
  ·
    refine OpO.still q rfl rfl (fun w5 o5 r => load_law hcn rfl rfl (.one Try.underlying40 rfl) ((hF.1.rx (r.rx none) (by simp)).cks (vs := [q]) rfl)) (fun w5 o5 r => ?_)
    replace hF := Frx hF (r.rx none)
    try replace hP := hP.rx hcn (r.rx none) (by simp)
    clear r
    walk_nrm
    refine anyO_all (rs := [1]) (by kernel_rfl) (by simp) (fun i hi => ?_)
    simp only [List.mem_cons, List.not_mem_nil, or_false] at hi
    subst hi
    refine OpO.still p rfl rfl (fun w5 o5 r => load_law hcn rfl rfl (.one Try.underlying40 rfl) ((hF.1.rx (r.rx none) (by simp)).cks (vs := [p]) rfl)) (fun w5 o5 r => ?_)
    replace hF := Frx hF (r.rx none)
    clear r
    walk_nrm
    refine anyO_all (rs := [2]) (by kernel_rfl) (by simp) (fun i hi => ?_)
    simp only [List.mem_cons, List.not_mem_nil, or_false] at hi
    subst hi
    refine OpO.call (vs := #[p]) rfl rfl rfl Try.func47 (by kernel_rfl) rfl (by simp [Act.eval]) (clone_o hcn hF.2.2.2.2.2.2.2.size hF.2.2.2.2.1 hA) (fun p' w5 o5 h => ?_)
    have hfp : ∀ g, p'.ownBlock = some g → w.heap.size ≤ g ∧ g ≠ g1 ∧ g ≠ g2 := fun g e => by have := h.2.2 g e; have := hF.1.lt; have := hF.2.1.lt; have := hF.2.2.2.2.2.2.1.size; omega
    replace hF := Frx hF h.1
    refine ⟨hF.2.2.2.2.2.2.2, ?_⟩
    have hP := h.2.1
    clear h
    obtain ⟨ap, cpp, rfl⟩ := hP.sl
    walk_nrm
    have hO := hF.2.2.2.2.2.2.2
    refine anyO_take (fun _ _ _ _ _ x r => x.rely r) (i := 6) (.pointer (some ⟨g1, 2, none⟩)) rfl (by kernel_rfl) (by kernel_rfl) (by kernel_rfl) (⟨rfl, fun w _ _ => ⟨by simp [go_sem, execOp, Act.eval, Instr.fieldAt, Instr.sureAddr], by simp [go_sem, execOp, Act.eval, Instr.fieldAt, Instr.sureAddr]⟩⟩) ‹OldO _ _ _ _› ?_
    try walk_nrm
    clear hO
    refine anyO_all (rs := [5]) (by kernel_rfl) (by simp) (fun i hi => ?_)
    simp only [List.mem_cons, List.not_mem_nil, or_false] at hi
    subst hi
    refine OpO.call (vs := #[q]) rfl rfl rfl Try.func47 (by kernel_rfl) rfl (by simp [Act.eval]) (clone_o hcn hF.2.2.2.2.2.2.2.size hF.2.2.2.2.2.1 hB) (fun q' w5 o5 h => ?_)
    have hfq : ∀ g, q'.ownBlock = some g → w.heap.size ≤ g ∧ g ≠ g1 ∧ g ≠ g2 := fun g e => by have := h.2.2 g e; have := hF.1.lt; have := hF.2.1.lt; have := hF.2.2.2.2.2.2.1.size; omega
    replace hF := Frx hF h.1
    replace hP := hP.rx hcn h.1 (by simp)
    refine ⟨hF.2.2.2.2.2.2.2, ?_⟩
    have hQ := h.2.1
    clear h
    obtain ⟨aq, cpq, rfl⟩ := hQ.sl
    walk_nrm
    refine anyO_all (rs := [7]) (by kernel_rfl) (by simp) (fun i hi => ?_)
    simp only [List.mem_cons, List.not_mem_nil, or_false] at hi
    subst hi
    obtain ⟨K1, K2, hm1, hm2, hp, hq, R3, hO⟩ := hF
    refine OpO.eff rfl rfl (Eff.store (g := g1) (off := 2) (vs := [.slice ap A.length cpp]) hcn rfl rfl rfl Try.type40 rfl (by simp [Value.oneCell']) K1 hn1 hm1 (by simp)) (fun v w6 o6 h => ?_)
    obtain ⟨rfl, r6, hm1, K1⟩ := h
    replace K1 : Kn nf c false w6 o6 g1 (.cells #[.int .i64 f, .int .i64 b, .slice ap A.length cpp, .int .i64 l, q] 64) := K1
    have hx1 : ∀ g, some g1 = some g → nf ≤ g := fun g e => by cases e; exact hn1
    replace hm2 := (r6.own g2 K2.lt).trans hm2
    replace K2 := K2.rx r6 (by simp [Ne.symm h12])
    replace hP := hP.rx hcn r6 (fun g e => by have := hfp g e; simp; omega)
    replace hQ := hQ.rx hcn r6 (fun g e => by have := hfq g e; simp; omega)
    replace R3 := R3.past r6 (fun g e => by cases e; exact hg1)
    replace hO := hO.rx r6 hx1
    clear hp hq r6
    walk_nrm
    refine anyO_take (fun _ _ _ _ _ x r => x.rely r) (i := 8) (.pointer (some ⟨g1, 4, none⟩)) rfl (by kernel_rfl) (by kernel_rfl) (by kernel_rfl) (⟨rfl, fun w _ _ => ⟨by simp [go_sem, execOp, Act.eval, Instr.fieldAt, Instr.sureAddr], by simp [go_sem, execOp, Act.eval, Instr.fieldAt, Instr.sureAddr]⟩⟩) ‹OldO _ _ _ _› ?_
    try walk_nrm
    refine anyO_all (rs := [9]) (by kernel_rfl) (by simp) (fun i hi => ?_)
    simp only [List.mem_cons, List.not_mem_nil, or_false] at hi
    subst hi
    refine OpO.eff rfl rfl (Eff.store (g := g1) (off := 4) (vs := [.slice aq B.length cpq]) hcn rfl rfl rfl Try.type40 rfl (by simp [Value.oneCell']) K1 hn1 hm1 (by simp)) (fun v w7 o7 h => ?_)
    obtain ⟨rfl, r7, hm1, K1⟩ := h
    replace K1 : Kn nf c false w7 o7 g1 (.cells #[.int .i64 f, .int .i64 b, .slice ap A.length cpp, .int .i64 l, .slice aq B.length cpq] 64) := K1
    replace hm2 := (r7.own g2 K2.lt).trans hm2
    replace K2 := K2.rx r7 (by simp [Ne.symm h12])
    replace hP := hP.rx hcn r7 (fun g e => by have := hfp g e; simp; omega)
    replace hQ := hQ.rx hcn r7 (fun g e => by have := hfq g e; simp; omega)
    replace R3 := R3.past r7 (fun g e => by cases e; exact hg1)
    clear hO r7
    walk_nrm
    refine anyO_done (by kernel_rfl) ?_ _
    first
    | refine Seg.ctl rfl (fun _ => stepG_seq) ?_
    | refine Seg.ctl rfl (fun _ => stepG_region_end) ?_
    | (refine Seg.ctl rfl (fun _ => stepG_region) ?_; simp only [List.size_toArray, List.length_cons, List.length_nil, Nat.reduceAdd, Nat.zero_add, List.range, List.range.loop])
    | refine Seg.ctl rfl (fun _ => stepG_block) ?_
    | refine Seg.ctl rfl (fun _ => stepG_inBlock) ?_
    | refine Seg.ctl rfl (fun _ => stepG_ret') ?_
    | refine Seg.ctl rfl (fun _ => stepG_loop) ?_
    | refine Seg.ctl rfl (fun _ => stepG_inLoop) ?_
    | refine Seg.ctl rfl (fun _ => stepG_skip) ?_
    first
    | refine Seg.ctl rfl (fun _ => stepG_seq) ?_
    | refine Seg.ctl rfl (fun _ => stepG_region_end) ?_
    | (refine Seg.ctl rfl (fun _ => stepG_region) ?_; simp only [List.size_toArray, List.length_cons, List.length_nil, Nat.reduceAdd, Nat.zero_add, List.range, List.range.loop])
    | refine Seg.ctl rfl (fun _ => stepG_block) ?_
    | refine Seg.ctl rfl (fun _ => stepG_inBlock) ?_
    | refine Seg.ctl rfl (fun _ => stepG_ret') ?_
    | refine Seg.ctl rfl (fun _ => stepG_loop) ?_
    | refine Seg.ctl rfl (fun _ => stepG_inLoop) ?_
    | refine Seg.ctl rfl (fun _ => stepG_skip) ?_
    refine Seg.load hcn (vs := [.int .i64 f, .int .i64 b, .slice ap A.length cpp, .int .i64 l, .slice aq B.length cpq]) rfl rfl (by decide) rfl rfl (.agg Try.underlying64 rfl Try.type64 rfl (by simp)) (K1.cks rfl) ?_
    walk_nrm
    refine Seg.store (g := g2) (off := 0) (vs := [.int .i64 f, .int .i64 b, .slice ap A.length cpp, .int .i64 l, .slice aq B.length cpq]) hcn rfl rfl (by decide) rfl rfl rfl Try.type64 rfl (by simp [Value.oneCell']) K2 hn2' hm2 (by simp) fun w8 o8 r8 hm2 K2 => ?_
    replace K2 : Kn nf c false w8 o8 g2 (.cells #[.int .i64 f, .int .i64 b, .slice ap A.length cpp, .int .i64 l, .slice aq B.length cpq] 64) := K2
    replace hP := hP.rx hcn r8 (fun g e => by have := hfp g e; simp; omega)
    replace hQ := hQ.rx hcn r8 (fun g e => by have := hfq g e; simp; omega)
    replace R3 := R3.past r8 (fun g e => by cases e; exact hw2)
    walk_nrm
    first
    | refine Seg.ctl rfl (fun _ => stepG_seq) ?_
    | refine Seg.ctl rfl (fun _ => stepG_region_end) ?_
    | (refine Seg.ctl rfl (fun _ => stepG_region) ?_; simp only [List.size_toArray, List.length_cons, List.length_nil, Nat.reduceAdd, Nat.zero_add, List.range, List.range.loop])
    | refine Seg.ctl rfl (fun _ => stepG_block) ?_
    | refine Seg.ctl rfl (fun _ => stepG_inBlock) ?_
    | refine Seg.ctl rfl (fun _ => stepG_ret') ?_
    | refine Seg.ctl rfl (fun _ => stepG_loop) ?_
    | refine Seg.ctl rfl (fun _ => stepG_inLoop) ?_
    | refine Seg.ctl rfl (fun _ => stepG_skip) ?_
    first
    | refine Seg.ctl rfl (fun _ => stepG_seq) ?_
    | refine Seg.ctl rfl (fun _ => stepG_region_end) ?_
    | (refine Seg.ctl rfl (fun _ => stepG_region) ?_; simp only [List.size_toArray, List.length_cons, List.length_nil, Nat.reduceAdd, Nat.zero_add, List.range, List.range.loop])
    | refine Seg.ctl rfl (fun _ => stepG_block) ?_
    | refine Seg.ctl rfl (fun _ => stepG_inBlock) ?_
    | refine Seg.ctl rfl (fun _ => stepG_ret') ?_
    | refine Seg.ctl rfl (fun _ => stepG_loop) ?_
    | refine Seg.ctl rfl (fun _ => stepG_inLoop) ?_
    | refine Seg.ctl rfl (fun _ => stepG_skip) ?_
    exact Seg.le (Seg.leaveCell (A := ⟨g2, 0, none⟩) (vs := [.int .i64 f, .int .i64 b, .slice ap A.length cpp, .int .i64 l, .slice aq B.length cpq]) hcn rfl Try.func35 rfl rfl (.agg Try.underlying64 rfl Try.type64 rfl (by simp)) (K2.cks rfl) fun w9 o9 r9 => ⟨R3.trans (r9.rx none), _, _, rfl, hP.rx hcn (r9.rx none) (by simp), fun g e => (hfp g e).1, hQ.rx hcn (r9.rx none) (by simp), fun g e => (hfq g e).1⟩) (by decide)
end Go.Proofs.Ytjkfnjjkjhggfaa
set_option linter.unusedSimpArgs false
set_option linter.unusedVariables false
namespace Go.Proofs.Ytjkfnjjkjhggfaa
open Go.Conc

section
variable {P : Program} {nf c : Nat} {me : Bool} {n : Nat} {w0 w w1 w2 : World} {o o1 o2 : Who} {Q : Goroutine → World → Who → Prop} {b : Frame} {a : Act} {k : List Item} {cs : List Frame} {ops : Array Oper} {i : Nat} {rest : List Nat} {op : Oper}
theorem ev_const (a : Act) (v : Value) : a.eval (.const v) = v := rfl
theorem sz_put (a : Act) (d : Option Tmp) (v : Value) : (a.put d v).tmps.size = a.tmps.size := by cases d <;> simp [Act.put]
theorem df_put (a : Act) (d : Option Tmp) (v : Value) : (a.put d v).defers = a.defers := by cases d <;> rfl
theorem ev_put_eq {a : Act} {d : Tmp} {v : Value} (h : d < a.tmps.size) : (a.put (some d) v).eval (.tmp d) = v := by simp [Act.put, Act.eval, h]
theorem ev_put_ne {a : Act} {d i : Tmp} {v : Value} (h : d ≠ i) : (a.put (some d) v).eval (.tmp i) = a.eval (.tmp i) := by simp [Act.put, Act.eval, h]
theorem ev_put_none (a : Act) (v : Value) : a.put none v = a := rfl
/-- It yields v and does nothing else, in whatever world. -/
def Pu (P : Program) (a : Act) (op : Oper) (v : Value) : Prop := ∀ w, (execOp a.eval op).run P w = .ok (.value v) w ∧ (execOp a.eval op).events P w #[] = #[]
theorem Seg.pu {v : Value} (h : Pu P a op v) (ho : ops[i]? = some op) (hw : Region.wanted op (yielded ops a.tmps) = true) (hk : b.kind ≠ .early)
    (hs : Seg P nf c me Q n (G (b.at (a.put op.dst v) (.inRegion ops rest :: k)) cs) w o) : Seg P nf c me Q (n + 1) (G (b.at a (.inRegion ops (i :: rest) :: k)) cs) w o :=
  Seg.pure v ho hw hk (fun w => (h w).1) (fun w => (h w).2) hs
theorem QuietO.pu {v : Value} (h : Pu P a op v) (hw : Region.wanted op (yielded ops a.tmps) = true) : QuietO P nf c me w0 op v ops a := ⟨hw, fun w1 _ _ => ⟨(h w1).1, by rw [(h w1).2]; simp⟩⟩
theorem Pu.move {x : Operand} {v : Value} (hop : op.op = .move x) (hx : a.eval x = v) : Pu P a op v := fun w => by unfold execOp; simp [hop, hx]
theorem Pu.assign {x : Operand} {v : Value} (hop : op.op = .assign x) (hx : a.eval x = v) : Pu P a op v := fun w => by unfold execOp; simp [hop, hx]
theorem Pu.bin {bop : BinOp} {t t' : TypeId} {x y : Operand} {m l : Int} {v : Value} (hop : op.op = .binOp bop t x y t') (hx : a.eval x = .int .i64 m) (hy : a.eval y = .int .i64 l) (hr : binOp bop t (.int .i64 m) (.int .i64 l) = Sem.pure v) : Pu P a op v := fun w => by
  have he : eqGuard bop t x y (.int .i64 m) (.int .i64 l) = Sem.pure () := by unfold eqGuard; cases bop <;> rfl
  unfold execOp
  simp [hop, hx, hy, hr, he]
theorem Pu.len {x : Operand} {t E : TypeId} {ao : Option Addr} {m cp : Nat} (hop : op.op = .call { callee := .builtin .len, args := #[x], argTypes := #[t] }) (ht : P.underlying t = some (.slice E)) (hx : a.eval x = .slice ao m cp) : Pu P a op (.int .i64 m) := fun w => by
  unfold execOp
  simp [hop, hx, resolve, invoke, builtin, Builtin.len_, run_underlying ht, goInt]
theorem Pu.field {s : TypeId} {x : Operand} {f : Nat} {fs : Array Field} {fd : Field} {inf : TypeInfo} {A : Addr} (hop : op.op = .fieldAddr s x f) (ht : P.underlying s = some (.struct fs)) (hf : fs[f]? = some fd) (hi : P.info? fd.type = some inf) (hz : inf.size ≠ 0) (hx : a.eval x = .pointer (some A)) :
    Pu P a op (.pointer (some (A.add fd.offset))) := fun w => by
  unfold execOp
  simp [hop, hx, Instr.fieldAt, Instr.sureAddr, run_underlying ht, hf, fieldPlace, sizeOf, typeInfo, hi, hz]
theorem Pu.index {t E : TypeId} {x y : Operand} {inf : TypeInfo} {A : Addr} {m cp j : Nat} (hop : op.op = .indexAddr t x y) (ht : P.underlying t = some (.slice E)) (hi : P.info? E = some inf) (hx : a.eval x = .slice (some A) m cp) (hy : a.eval y = .int .i64 j) (hj : j < m) :
    Pu P a op (.pointer (some (A.add (j * inf.size)))) := fun w => by
  unfold execOp
  have : ((j : Int) < (m : Int)) := by omega
  simp [hop, hx, hy, Instr.indexAt, asIntOf, run_underlying ht, sizeOf, typeInfo, hi, hj]
theorem Pu.extract {x : Operand} {f : Nat} {vs : Array Value} {v : Value} (hop : op.op = .extract x f) (hx : a.eval x = .tuple vs) (hv : vs[f]? = some v) : Pu P a op v := fun w => by
  unfold execOp
  simp [hop, hx, Instr.extract, hv]
/-- A load of old memory. -/
structure Cko (nf c : Nat) (w0 : World) (A : Addr) (v : Value) : Prop where
  lt : A.block < nf
  ne : A.block ≠ c
  eq : w0.cell? A = some v
theorem Cko.ck {A : Addr} {v : Value} (h : Cko nf c w0 A v) (hO : OldO nf c w0 w) : Ck nf c me w o A v :=
  ⟨Nat.lt_of_lt_of_le h.lt hO.size, h.ne, .inl h.lt, (World.cell?_of_block (hO.block _ h.lt h.ne)).trans h.eq⟩
theorem QuietO.load (hcn : c < nf) {x : Operand} {t : TypeId} {A : Addr} {vs : List Value} {v : Value} (hw : Region.wanted op (yielded ops a.tmps) = true) (hop : op.op = .load t x) (ha : a.eval x = .pointer (some A)) (hl : LoadOf P t vs v) (hc : ∀ j u, vs[j]? = some u → Cko nf c w0 (A.add j) u) :
    QuietO P nf c me w0 op v ops a := ⟨hw, fun _ _ hO => load_law hcn hop ha hl fun j u hj => (hc j u hj).ck hO⟩
theorem cko1 {A : Addr} {v : Value} (h : Cko nf c w0 A v) : ∀ j u, [v][j]? = some u → Cko nf c w0 (A.add j) u := fun j u hj => by
  cases j with
  | zero => cases hj; exact h
  | succ j => simp at hj
theorem ck1 {A : Addr} {v : Value} (h : Ck nf c me w o A v) : ∀ j u, [v][j]? = some u → Ck nf c me w o (A.add j) u := fun j u hj => by
  cases j with
  | zero => cases hj; exact h
  | succ j => simp at hj
theorem build1_law {t E : TypeId} {x : Operand} {v z : Value} {inf : TypeInfo} (hop : op.op = .buildSlice t 1 #[(0, x)]) (hx : a.eval x = v) (ht : P.underlying t = some (.slice E)) (hi : P.info? E = some inf) (hz : inf.zero = some z) (hzs : z.cells.size = inf.size) (hs : v.cells.size = inf.size) (hpos : 0 < inf.size) (hsm : inf.size ≤ 1000) (w : World) :
    (execOp a.eval op).run P w = .ok (.value (.slice (some ⟨w.heap.size, 0, none⟩) 1 1)) (w.alloc (.cells v.cells E)) ∧ (execOp a.eval op).events P w #[] = #[] := by
  have hf := _root_.Go.Great.fill_whole hpos [v] ((Array.range (1 * inf.size)).map (z.cells[· % z.cells.size]!)) (by simp [hs]) (by simp)
  have e1 : (([v].zipIdx 0).map fun x => (x.2, x.1)) = [(0, v)] := rfl
  have e2 : ([v].flatMap fun v => v.cells.toList).toArray = v.cells := by simp
  rw [e1, e2] at hf
  have h1 : ¬ 1 * inf.size > 2 ^ 24 := by omega
  have h2 : ¬ 1 * inf.size = 0 := by omega
  have hr := run_buildSlice w t E 1 #[(0, v)] v.cells inf z ht hi hz h1 h2 hf
  have hf' : Instr.fill (fun i => some (i * inf.size, inf.size)) ((Array.range inf.size).map (z.cells[· % z.cells.size]!)) [(0, v)] = some v.cells := by simpa using hf
  have h1' : ¬ 2 ^ 24 < inf.size := by omega
  have h2' : ¬ inf.size = 0 := by omega
  unfold execOp
  constructor
  · simp [hop, hx, hr]
  · have h3 : inf.size ≤ 16777216 := by omega
    simp [hop, hx, Instr.buildSlice, run_underlying ht, sizeOf, typeInfo, zeroValue, hi, hz, newRow, h2', h3, hf']
theorem bin_lss (t : TypeId) (m l : Int) : binOp .lss t (.int .i64 m) (.int .i64 l) = Sem.pure (.bool (decide (m < l))) := rfl
theorem bin_gtr (t : TypeId) (m l : Int) : binOp .gtr t (.int .i64 m) (.int .i64 l) = Sem.pure (.bool (decide (m > l))) := rfl
theorem bin_eql (t : TypeId) (m l : Int) : binOp .eql t (.int .i64 m) (.int .i64 l) = Sem.pure (.bool (m == l)) := rfl
theorem bin_add (t : TypeId) (m l : Int) : binOp .add t (.int .i64 m) (.int .i64 l) = Sem.pure (.int .i64 (IntKind.i64.wrap (m + l))) := rfl
theorem bin_sub (t : TypeId) (m l : Int) : binOp .sub t (.int .i64 m) (.int .i64 l) = Sem.pure (.int .i64 (IntKind.i64.wrap (m - l))) := rfl
end
end Go.Proofs.Ytjkfnjjkjhggfaa
