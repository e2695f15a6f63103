/- What lacks: plain laws. Nobody can leave a house out of a path: plain. A drawn region whose head only reads, draws and calls what keeps old memory, and whose last operations stand in one order (they make memory): one walk of the head, then the tail. -/
import Derived.Test.YtiocomefkckbfaaDoorZ16
import Derived.Test.YtiocomefkckbfaaDoorZ1
import Derived.StillTail
set_option linter.unusedSimpArgs false
set_option linter.unusedVariables false
namespace Go.Proofs.YtiocomefkckbfaaDoor
open Go.RowKit

theorem lk9_zero {L : List Sl} : ∀ {K : List Sl}, (∀ s ∈ K, s.1 ≠ 0) → (lk9 L K = 0 ↔ ∀ s ∈ K, s ∈ L)
  | [], _ => by simp [lk9]
  | s :: r, h => by
    by_cases hs : s ∈ L
    · simp only [lk9, if_pos hs]
      rw [lk9_zero (fun y hy => h y (List.mem_cons_of_mem _ hy))]
      simp [hs]
    · simp only [lk9, if_neg hs]
      have := h s (List.mem_cons_self ..)
      simp [this, hs]
theorem SMk.pos {ti g c lk : Int} {P M : List Int} (h : SMk ti g c lk P M) {k : Nat} (hk : k < P.length) : 1 ≤ P.getD k 0 ∧ P.getD k 0 ≤ 5 := h.1.2.2.1.1 _ (getD_mem hk)
theorem SMk.ne0 {ti g c lk : Int} {P M : List Int} (h : SMk ti g c lk P M) : ∀ s ∈ mkN ti g c P P.length, s.1 ≠ 0 := fun s hs => by
  obtain ⟨k, hk, rfl⟩ := mkN_mem hs
  have := h.pos hk
  show P.getD k 0 ≠ 0
  omega
theorem mem_mkN {ti g c : Int} {P : List Int} {n k : Nat} (h : k < n) : sAt ti g c P k ∈ mkN ti g c P n := List.mem_of_getElem? (mkN_at h)
theorem lacks_ok {H : List HoldD} {L : List Sl} {ti g c lk : Int} {P M : List Int} : (lacks H L ti g c lk P M == 0) = true ↔ SMk ti g c lk P M ∧ H.any (holdsP (lastP P) g c) = true ∧ ∀ k, k < P.length → sAt ti g c P k ∈ L := by
  rw [beq_iff_eq]
  unfold lacks
  by_cases h1 : SMk ti g c lk P M
  · rw [if_pos h1]
    by_cases h2 : H.any (holdsP (lastP P) g c) = true
    · rw [if_pos h2, lk9_zero h1.ne0]
      exact ⟨fun h => ⟨h1, h2, fun k hk => h _ (mem_mkN hk)⟩, fun h s hs => by obtain ⟨k, hk, rfl⟩ := mkN_mem hs; exact h.2.2 k hk⟩
    · rw [if_neg h2]
      simp [h2]
  · rw [if_neg h1]
    simp [h1]
theorem lacks_no {H : List HoldD} {L : List Sl} {ti g c lk : Int} {P M : List Int} (h : ¬ (SMk ti g c lk P M ∧ H.any (holdsP (lastP P) g c) = true ∧ ∀ k, k < P.length → sAt ti g c P k ∈ L)) : (lacks H L ti g c lk P M == 0) = false := by
  rw [Bool.eq_false_iff]; exact fun q => h (lacks_ok.1 q)
theorem sz0 : sz 0 = 256 := by decide
theorem rin_all {g c : Int} (h : ROk g c) : RIn g c 0 0 := by
  refine ⟨h, ⟨by omega, by omega, by omega, by omega, by rw [sz0]; rfl⟩, h.1, ?_⟩
  have := h.2.2
  unfold Cov
  rw [sz0]; omega
theorem holds_all {x g c : Int} (h : ROk g c) : ([⟨x, 0, 0⟩] : List HoldD).any (holdsP x g c) = true := by
  simp [holdsP, rin_all h]
theorem seal_own {ti g c lk : Int} {P M : List Int} (h : SMk ti g c lk P M) : (lacks [⟨lastP P, 0, 0⟩] (mkN ti g c P P.length) ti g c lk P M == 0) = true :=
  lacks_ok.2 ⟨h, holds_all h.1.1, fun k hk => mem_mkN hk⟩
theorem seal_range {ti g c lk g' c' : Int} {P M : List Int} {H : List HoldD} (h0 : 0 < P.length) (hc : c' ≠ c) : (lacks H (mkN ti g c P P.length) ti g' c' lk P M == 0) = false :=
  lacks_no fun q => by
    have h1 := q.2.2 0 h0
    obtain ⟨k, hk, e⟩ := mkN_mem h1
    unfold sAt at e
    simp only [Prod.mk.injEq] at e
    exact hc e.2.2.2.1
theorem hlf_bits {f b : Int} (h : Hlf f b) : hB f b ≠ b := by
  unfold hB; rw [if_pos h]; omega
end Go.Proofs.YtiocomefkckbfaaDoor
set_option linter.unusedSimpArgs false
set_option linter.unusedVariables false
namespace Go.Proofs.YtiocomefkckbfaaDoor
open Go.RowKit

theorem mem_mkN_at {ti g c tv : Int} {P Q : List Int} {x : Int} {n : Nat} (hn : n = P.length) (h : (x, tv, g, c, Q) ∈ mkN ti g c P n) : ∃ i, i < P.length ∧ tv = tvAt ti P i ∧ Q = P.drop i := by
  obtain ⟨i, hi, e⟩ := mkN_mem h
  unfold sAt at e
  simp only [Prod.mk.injEq] at e
  exact ⟨i, by omega, e.2.1, e.2.2.2.2⟩
theorem short_no {ti g c lk : Int} {P M : List Int} {H : List HoldD} {k : Nat} (h : SMk ti g c lk P M) (h2 : 2 ≤ P.length) (hk : k < P.length - 1) :
    (lacks H (mkN ti g c P P.length) ti g c 0 (P.take k ++ P.drop (k + 1)) M == 0) = false := lacks_no fun q => by
  have hl : (P.take k ++ P.drop (k + 1)).length = P.length - 1 := by rw [List.length_append, List.length_take, List.length_drop]; omega
  have h0 := q.2.2 0 (by rw [hl]; omega)
  unfold sAt at h0
  obtain ⟨i, hi, e1, e2⟩ := mem_mkN_at rfl h0
  have e3 := congrArg List.length e2
  rw [List.drop_zero, hl, List.length_drop] at e3
  have hi1 : i = 1 := by omega
  subst hi1
  have e4 : ti = P.getD 0 0 := by
    have : tvAt ti (P.take k ++ P.drop (k + 1)) 0 = ti := rfl
    rw [this] at e1
    exact e1
  exact h.2.2 (by rw [e4]; exact getD_mem (by omega))
theorem getD_drop (P : List Int) (k j : Nat) : (P.drop k).getD j 0 = P.getD (k + j) 0 := by
  rw [List.getD_eq_getElem?_getD, List.getD_eq_getElem?_getD, List.getElem?_drop]
theorem rest_mk {ti g c lk : Int} {P M : List Int} {k : Nat} (h : SMk ti g c lk P M) (hk : k < P.length - 1) : SMk (P.getD k 0) g c 0 (P.drop (k + 1)) M := by
  obtain ⟨⟨h1, h2, ⟨h3, h3'⟩, h4, h5⟩, h6, h7⟩ := h
  refine ⟨⟨h1, by rw [List.length_drop]; omega, ⟨fun x hx => h3 x (List.mem_of_mem_drop hx), (List.drop_sublist _ _).nodup h3'⟩, by unfold Bts; omega, h5⟩, h3 _ (getD_mem (by omega)), fun hm => ?_⟩
  have e : P.drop k = P.getD k 0 :: P.drop (k + 1) := by
    rw [List.getD_eq_getElem?_getD, List.getElem?_eq_getElem (by omega)]
    exact List.drop_eq_getElem_cons (by omega)
  have := (List.drop_sublist k P).nodup h3'
  rw [e] at this
  exact (List.nodup_cons.1 this).1 hm
theorem lastP_drop {P : List Int} {k : Nat} (hk : k < P.length) : lastP (P.drop k) = lastP P := by
  unfold lastP
  rw [getD_drop, List.length_drop]
  congr 1
  omega
theorem sAt_drop (ti g c : Int) (P : List Int) (k j : Nat) : sAt (P.getD k 0) g c (P.drop (k + 1)) j = sAt ti g c P (k + 1 + j) := by
  unfold sAt
  rw [getD_drop, List.drop_drop]
  simp only [Prod.mk.injEq, true_and, and_true]
  unfold tvAt
  by_cases hj : j = 0
  · rw [if_pos hj, if_neg (show ¬ k + 1 + j = 0 by omega), show k + 1 + j - 1 = k by omega]
  · rw [if_neg hj, if_neg (show ¬ k + 1 + j = 0 by omega), getD_drop, show k + 1 + (j - 1) = k + 1 + j - 1 by omega]
theorem short_rest {ti g c lk : Int} {P M : List Int} {k : Nat} (h : SMk ti g c lk P M) (hk : k < P.length - 1) :
    (lacks [⟨lastP P, 0, 0⟩] (mkN ti g c P P.length) (P.getD k 0) g c 0 (P.drop (k + 1)) M == 0) = true := by
  have hr := rest_mk h hk
  refine lacks_ok.2 ⟨hr, by rw [lastP_drop (by omega)]; exact holds_all h.1.1, fun j hj => ?_⟩
  rw [List.length_drop] at hj
  rw [sAt_drop ti]
  exact mem_mkN (by omega)
theorem short_other {ti g c lk o : Int} {P M : List Int} {H : List HoldD} {k : Nat} (_ : SMk ti g c lk P M) (hk : k < P.length - 1) (ho : o ≠ P.getD k 0) :
    (lacks H (mkN ti g c P P.length) o g c 0 (P.drop (k + 1)) M == 0) = false := lacks_no fun q => by
  have h0 := q.2.2 0 (by rw [List.length_drop]; omega)
  unfold sAt at h0
  obtain ⟨i, hi, e1, e2⟩ := mem_mkN_at rfl h0
  have e3 := congrArg List.length e2
  rw [List.drop_zero, List.length_drop, List.length_drop] at e3
  have hi1 : i = k + 1 := by omega
  subst hi1
  refine ho ?_
  have : tvAt o (P.drop (k + 1)) 0 = o := rfl
  rw [this] at e1
  rw [e1]; rfl
end Go.Proofs.YtiocomefkckbfaaDoor
set_option linter.unusedSimpArgs false
set_option linter.unusedVariables false
namespace Go.Proofs.YtiocomefkckbfaaDoor
open Go Go.RowKit

section
variable {P : Program} {ops : Array Oper} {md : Region.Mode} {C : World → Prop}

/-- Whatever order the head's operations come up in, each has its one value, and L holds behind them. -/
def HeadQ (P : Program) (md : Region.Mode) (ops : Array Oper) (C : World → Prop) (n : Nat) (L : Array Bool → Act → Prop) : Nat → Array Bool → Act → Prop
  | 0, ls, a => L ls a
  | f + 1, ls, a => Region.ready md ops ls ≠ [] ∧ ∀ i ∈ Region.ready md ops ls, i < n ∧ qOp P ops C i (HeadQ P md ops C n L f (ls.setIfInBounds i true)) a

theorem HeadQ.any {n g : Nat} {L : Array Bool → Act → Prop} {Q : Exit → Act → World → Prop} (hL : ∀ ls a w, C w → L ls a → wpAny P md ops Q g ls a w) :
    ∀ f ls a w, C w → HeadQ P md ops C n L f ls a → wpAny P md ops Q (f + g) ls a w
  | 0, ls, a, w, hw, h => by rw [Nat.zero_add]; exact hL ls a w hw h
  | f + 1, ls, a, w, hw, ⟨h1, h2⟩ => by
    rw [Nat.add_right_comm]
    refine ⟨fun e => absurd e h1, fun i hi => ?_⟩
    exact wpOp_of_qOp hw (fun a' w' hw' k => HeadQ.any hL f _ a' w' hw' k) (h2 i hi).2

/-- One of the head that is ready, and apart from all that does not wait for it, may as well come first. -/
theorem HeadQ.first {n i : Nat} {o : Oper} {v : Value} {L : Array Bool → Act → Prop} (ho : ops[i]? = some o) (hsel : ∀ (j : Nat) (o : Oper) cs b, ops[j]? = some o → o.op ≠ .select cs b)
    (hs : Region.sinkB md ops n = true) (hc : Region.chainB md ops n = true) (hn : n < ops.size) (hin : i < n) (hend : ∀ ls a, L ls a → ∀ j ∈ Region.ready md ops ls, n ≤ j) :
    ∀ f ls a, HeadInv md ops n ls → (∀ j oj, ops[j]? = some oj → j ≠ i → ls.getD j true = false → (∀ e ∈ oj.after, Region.binds md e = true → e.on ≠ i) → o.apart ops oj = true) →
      i ∈ Region.ready md ops ls → YieldsIn P ops C o v a → HeadQ P md ops C n L f (ls.setIfInBounds i true) (a.put o.dst v) → HeadQ P md ops C n L (f + 1) ls a := by
  intro f
  induction f with
  | zero =>
    intro ls a inv _ hi hy k
    have hnot : ∀ j ∈ Region.ready md ops ls, j < n := fun j hj => Classical.byContradiction fun g => tail_waits hs hc hn inv _ i rfl hin (mem_ready.1 hi).1 j (by omega) hj
    refine ⟨fun e => (by rw [e] at hi; cases hi), fun j hj => ⟨hnot j hj, ?_⟩⟩
    by_cases e : j = i
    · subst e; exact hy.qOp ho k
    · have h1 := hend _ _ k j (ready_mono hj e)
      have h2 := hnot j hj
      omega
  | succ f ih =>
    intro ls a inv hap hi hy k
    have hnot : ∀ j ∈ Region.ready md ops ls, j < n := fun j hj => Classical.byContradiction fun g => tail_waits hs hc hn inv _ i rfl hin (mem_ready.1 hi).1 j (by omega) hj
    refine ⟨fun e => (by rw [e] at hi; cases hi), fun j hj => ⟨hnot j hj, ?_⟩⟩
    by_cases e : j = i
    · subst e; exact hy.qOp ho k
    · obtain ⟨hju, oj, hoj, haft⟩ := mem_ready.1 hj
      have hfree : ∀ x ∈ oj.after, Region.binds md x = true → x.on ≠ i := fun x hx hb q => by
        have := haft x hx hb
        rw [q, getD_both (mem_ready.1 hi).1] at this
        cases this
      have hq := qOp_put hoj (hap j oj hoj e hju hfree) (fun cs b => hsel i o cs b ho) (fun cs b => hsel j oj cs b hoj) hy (k.2 j (ready_mono hj e)).2
      refine qOp_mono (fun a' ha' => ih (ls.setIfInBounds j true) a' (inv.set hj (hnot j hj)) (fun m om hm hmi hmu hno => hap m om hm hmi ?_ hno) (ready_mono hi (Ne.symm e)) ha'.1 ?_) hq
      · by_cases q : j = m
        · subst q; exact hju
        · rwa [getD_set_ne true q] at hmu
      · rw [Array.setIfInBounds_comm _ _ e]
        exact ha'.2

theorem HeadQ.lex {n g : Nat} {K : Act → Prop} (hsel : Region.noSelect ops = true) (hs : Region.sinkB md ops n = true) (hc : Region.chainB md ops n = true) (hn : n < ops.size) :
    ∀ (l : List Oper) (k : Nat) (ls : Array Bool) (a : Act), (∀ j, j < l.length → l[j]? = ops[k + j]?) → k + l.length = n → HeadInv md ops n ls → Region.lexHead md ops g l.length k ls = true →
      wpQuiet P ops C K l a → HeadQ P md ops C n (fun ls a => Region.seqB md ops g n ls = true ∧ K a) l.length ls a
  | [], k, ls, a, _, hk, _, hB, h => by
    obtain rfl : k = n := by simpa using hk
    exact ⟨by simpa [Region.lexHead] using hB, h⟩
  | o :: l, k, ls, a, hl, hk, inv, hB, h => by
    have ho : ops[k]? = some o := by simpa using (hl 0 (by simp)).symm
    simp only [List.length_cons, Region.lexHead, Bool.and_eq_true] at hB hk
    have hr : k ∈ Region.ready md ops ls := by simpa using hB.1.1
    have hq : qOp P ops C k (wpQuiet P ops C K l) a := by unfold qOp; simp only [ho]; exact h
    obtain ⟨v, hy, hK⟩ := yieldsIn_of_qOp ho hq
    refine HeadQ.first ho (Region.noSelect_spec hsel) hs hc hn (by omega) (fun ls a hL => seqB_ready hL.1) l.length ls a inv (Region.free_spec ho hB.1.2) hr hy ?_
    exact HeadQ.lex hsel hs hc hn l (k + 1) _ _ (fun j hj => by have := hl (j + 1) (by simp; omega); simpa [Nat.add_assoc, Nat.add_comm 1 j] using this) (by omega) (inv.set hr (by omega)) hB.2 hK
end

/-- The region. -/
theorem wp_region_tail {P : Program} {id : Nat} {Q : Exit → Act → World → Prop} {a : Act} {w : World} {l : List Oper} (n : Nat) (hm : P.follows .mixedOrders = true) (hB : Region.lexTailB .any l.toArray n = true)
    (h : wpQuiet P l.toArray (fun w' => ∃ x : Cl w.heap.size w, w' = x.W) (fun a' => ∀ x : Cl w.heap.size w, wpList P l.toArray Q (l.drop n) a' x.W) (l.take n) a) : (Code.region id l.toArray true).wp P Q a w := by
  simp only [Region.lexTailB, Bool.and_eq_true, decide_eq_true_eq] at hB
  obtain ⟨⟨⟨⟨hsel, hn⟩, hs⟩, hc⟩, hlex⟩ := hB
  have hnl : n < l.length := by simpa using hn
  have e1 : (l.take n).length = n := by simp; omega
  have e2 : (l.drop n).length = l.toArray.size - n := by simp
  have inv0 : HeadInv .any l.toArray n (Array.replicate l.toArray.size false) :=
    ⟨by simp, fun j oj _ hl => (by rw [getD_replicate_false] at hl; cases hl), fun t _ ht => getD_in (by simpa using ht) (getD_replicate_false _ _)⟩
  have H := HeadQ.lex (md := .any) (g := l.toArray.size - n) hsel hs hc hn (l.take n) 0 _ a (fun j hj => by rw [e1] at hj; simp [hj]) (by rw [e1, Nat.zero_add]) inv0 (by rw [e1]; exact hlex) h
  refine wp_region_any hm ?_
  have key := HeadQ.any (Q := Q) (g := l.toArray.size - n) (fun ls a' w' hw' hL => by
    obtain ⟨x, rfl⟩ := hw'
    have := wpAny_of_seq (md := .any) (Q' := Q) (l.drop n) n ls a' x.W (fun j => by simp [List.getElem?_drop]) (by rw [e2]; exact hL.1) (hL.2 x)
    rwa [e2] at this) _ _ _ w.drew ⟨⟨w.drew, (Below.refl _ _).drew⟩, rfl⟩ H
  rw [e1, show n + (l.toArray.size - n) = l.toArray.size by omega] at key
  exact key
end Go.Proofs.YtiocomefkckbfaaDoor
