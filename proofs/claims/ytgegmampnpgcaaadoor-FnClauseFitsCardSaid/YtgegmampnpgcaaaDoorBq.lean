/- A drawn region whose head only reads, draws and calls what keeps old memory, and whose last operations stand in one order (they make memory): one walk of the head, then the tail. -/
import Derived.Test.YtgegmampnpgcaaaDoorB0
import Derived.StillTail
set_option linter.unusedSimpArgs false
set_option linter.unusedVariables false
namespace Go.Proofs.YtgegmampnpgcaaaDoor
open Go Go.RowKit

section
variable {P : Program} {ops : Array Oper} {md : Region.Mode} {C : World → Prop}

/-- Whatever order the head's operations come up in, each has its one value, and L holds behind them. -/
def HeadQ (P : Program) (md : Region.Mode) (ops : Array Oper) (C : World → Prop) (n : Nat) (L : Array Bool → Act → Prop) : Nat → Array Bool → Act → Prop
  | 0, ls, a => L ls a
  | f + 1, ls, a => Region.ready md ops ls ≠ [] ∧ ∀ i ∈ Region.ready md ops ls, i < n ∧ qOp P ops C i (HeadQ P md ops C n L f (ls.setIfInBounds i true)) a

theorem HeadQ.any {n g : Nat} {L : Array Bool → Act → Prop} {Q : Exit → Act → World → Prop} (hL : ∀ ls a w, C w → L ls a → wpAny P md ops Q g ls a w) :
    ∀ f ls a w, C w → HeadQ P md ops C n L f ls a → wpAny P md ops Q (f + g) ls a w
  | 0, ls, a, w, hw, h => by rw [Nat.zero_add]; exact hL ls a w hw h
  | f + 1, ls, a, w, hw, ⟨h1, h2⟩ => by
    rw [Nat.add_right_comm]
    refine ⟨fun e => absurd e h1, fun i hi => ?_⟩
    exact wpOp_of_qOp hw (fun a' w' hw' k => HeadQ.any hL f _ a' w' hw' k) (h2 i hi).2

/-- One of the head that is ready, and apart from all that does not wait for it, may as well come first. -/
theorem HeadQ.first {n i : Nat} {o : Oper} {v : Value} {L : Array Bool → Act → Prop} (ho : ops[i]? = some o) (hsel : ∀ (j : Nat) (o : Oper) cs b, ops[j]? = some o → o.op ≠ .select cs b)
    (hs : Region.sinkB md ops n = true) (hc : Region.chainB md ops n = true) (hn : n < ops.size) (hin : i < n) (hend : ∀ ls a, L ls a → ∀ j ∈ Region.ready md ops ls, n ≤ j) :
    ∀ f ls a, HeadInv md ops n ls → (∀ j oj, ops[j]? = some oj → j ≠ i → ls.getD j true = false → (∀ e ∈ oj.after, Region.binds md e = true → e.on ≠ i) → o.apart ops oj = true) →
      i ∈ Region.ready md ops ls → YieldsIn P ops C o v a → HeadQ P md ops C n L f (ls.setIfInBounds i true) (a.put o.dst v) → HeadQ P md ops C n L (f + 1) ls a := by
  intro f
  induction f with
  | zero =>
    intro ls a inv _ hi hy k
    have hnot : ∀ j ∈ Region.ready md ops ls, j < n := fun j hj => Classical.byContradiction fun g => tail_waits hs hc hn inv _ i rfl hin (mem_ready.1 hi).1 j (by omega) hj
    refine ⟨fun e => (by rw [e] at hi; cases hi), fun j hj => ⟨hnot j hj, ?_⟩⟩
    by_cases e : j = i
    · subst e; exact hy.qOp ho k
    · have h1 := hend _ _ k j (ready_mono hj e)
      have h2 := hnot j hj
      omega
  | succ f ih =>
    intro ls a inv hap hi hy k
    have hnot : ∀ j ∈ Region.ready md ops ls, j < n := fun j hj => Classical.byContradiction fun g => tail_waits hs hc hn inv _ i rfl hin (mem_ready.1 hi).1 j (by omega) hj
    refine ⟨fun e => (by rw [e] at hi; cases hi), fun j hj => ⟨hnot j hj, ?_⟩⟩
    by_cases e : j = i
    · subst e; exact hy.qOp ho k
    · obtain ⟨hju, oj, hoj, haft⟩ := mem_ready.1 hj
      have hfree : ∀ x ∈ oj.after, Region.binds md x = true → x.on ≠ i := fun x hx hb q => by
        have := haft x hx hb
        rw [q, getD_both (mem_ready.1 hi).1] at this
        cases this
      have hq := qOp_put hoj (hap j oj hoj e hju hfree) (fun cs b => hsel i o cs b ho) (fun cs b => hsel j oj cs b hoj) hy (k.2 j (ready_mono hj e)).2
      refine qOp_mono (fun a' ha' => ih (ls.setIfInBounds j true) a' (inv.set hj (hnot j hj)) (fun m om hm hmi hmu hno => hap m om hm hmi ?_ hno) (ready_mono hi (Ne.symm e)) ha'.1 ?_) hq
      · by_cases q : j = m
        · subst q; exact hju
        · rwa [getD_set_ne true q] at hmu
      · rw [Array.setIfInBounds_comm _ _ e]
        exact ha'.2

theorem HeadQ.lex {n g : Nat} {K : Act → Prop} (hsel : Region.noSelect ops = true) (hs : Region.sinkB md ops n = true) (hc : Region.chainB md ops n = true) (hn : n < ops.size) :
    ∀ (l : List Oper) (k : Nat) (ls : Array Bool) (a : Act), (∀ j, j < l.length → l[j]? = ops[k + j]?) → k + l.length = n → HeadInv md ops n ls → Region.lexHead md ops g l.length k ls = true →
      wpQuiet P ops C K l a → HeadQ P md ops C n (fun ls a => Region.seqB md ops g n ls = true ∧ K a) l.length ls a
  | [], k, ls, a, _, hk, _, hB, h => by
    obtain rfl : k = n := by simpa using hk
    exact ⟨by simpa [Region.lexHead] using hB, h⟩
  | o :: l, k, ls, a, hl, hk, inv, hB, h => by
    have ho : ops[k]? = some o := by simpa using (hl 0 (by simp)).symm
    simp only [List.length_cons, Region.lexHead, Bool.and_eq_true] at hB hk
    have hr : k ∈ Region.ready md ops ls := by simpa using hB.1.1
    have hq : qOp P ops C k (wpQuiet P ops C K l) a := by unfold qOp; simp only [ho]; exact h
    obtain ⟨v, hy, hK⟩ := yieldsIn_of_qOp ho hq
    refine HeadQ.first ho (Region.noSelect_spec hsel) hs hc hn (by omega) (fun ls a hL => seqB_ready hL.1) l.length ls a inv (Region.free_spec ho hB.1.2) hr hy ?_
    exact HeadQ.lex hsel hs hc hn l (k + 1) _ _ (fun j hj => by have := hl (j + 1) (by simp; omega); simpa [Nat.add_assoc, Nat.add_comm 1 j] using this) (by omega) (inv.set hr (by omega)) hB.2 hK
end

/-- The region. -/
theorem wp_region_tail {P : Program} {id : Nat} {Q : Exit → Act → World → Prop} {a : Act} {w : World} {l : List Oper} (n : Nat) (hm : P.follows .mixedOrders = true) (hB : Region.lexTailB .any l.toArray n = true)
    (h : wpQuiet P l.toArray (fun w' => ∃ x : Cl w.heap.size w, w' = x.W) (fun a' => ∀ x : Cl w.heap.size w, wpList P l.toArray Q (l.drop n) a' x.W) (l.take n) a) : (Code.region id l.toArray true).wp P Q a w := by
  simp only [Region.lexTailB, Bool.and_eq_true, decide_eq_true_eq] at hB
  obtain ⟨⟨⟨⟨hsel, hn⟩, hs⟩, hc⟩, hlex⟩ := hB
  have hnl : n < l.length := by simpa using hn
  have e1 : (l.take n).length = n := by simp; omega
  have e2 : (l.drop n).length = l.toArray.size - n := by simp
  have inv0 : HeadInv .any l.toArray n (Array.replicate l.toArray.size false) :=
    ⟨by simp, fun j oj _ hl => (by rw [getD_replicate_false] at hl; cases hl), fun t _ ht => getD_in (by simpa using ht) (getD_replicate_false _ _)⟩
  have H := HeadQ.lex (md := .any) (g := l.toArray.size - n) hsel hs hc hn (l.take n) 0 _ a (fun j hj => by rw [e1] at hj; simp [hj]) (by rw [e1, Nat.zero_add]) inv0 (by rw [e1]; exact hlex) h
  refine wp_region_any hm ?_
  have key := HeadQ.any (Q := Q) (g := l.toArray.size - n) (fun ls a' w' hw' hL => by
    obtain ⟨x, rfl⟩ := hw'
    have := wpAny_of_seq (md := .any) (Q' := Q) (l.drop n) n ls a' x.W (fun j => by simp [List.getElem?_drop]) (by rw [e2]; exact hL.1) (hL.2 x)
    rwa [e2] at this) _ _ _ w.drew ⟨⟨w.drew, (Below.refl _ _).drew⟩, rfl⟩ H
  rw [e1, show n + (l.toArray.size - n) = l.toArray.size by omega] at key
  exact key
end Go.Proofs.YtgegmampnpgcaaaDoor
