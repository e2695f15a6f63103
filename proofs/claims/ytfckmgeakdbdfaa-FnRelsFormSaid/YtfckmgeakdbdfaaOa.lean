/- The order of houses by their customers: plain. -/
import Derived.Test.YtfckmgeakdbdfaaMc
set_option linter.unusedSimpArgs false
set_option linter.unusedVariables false
namespace Go.Proofs.Ytfckmgeakdbdfaa
open Go.RowKit

/-- h is not yet among L, and all its customers are. -/
def Cust (M : List (List Int)) (L : List Int) (h : Int) (k : Nat) : Prop := ∀ c : Nat, c < k → relof M h ((c : Int) + 1) = 1 → ((c : Int) + 1) ∈ L
instance (M : List (List Int)) (L : List Int) (h : Int) (k : Nat) : Decidable (Cust M L h k) := by unfold Cust; infer_instance
def Rdy (M : List (List Int)) (L : List Int) (h : Int) : Prop := h ∉ L ∧ Cust M L h M.length
instance (M : List (List Int)) (L : List Int) (h : Int) : Decidable (Rdy M L h) := by unfold Rdy; infer_instance
theorem cust_zero (M : List (List Int)) (L : List Int) (h : Int) : decide (Cust M L h 0) = true := by
  rw [decide_eq_true_eq]; intro c hc; omega
theorem cust_step (M : List (List Int)) (L : List Int) (h : Int) (k : Nat) : Cust M L h (k + 1) ↔ Cust M L h k ∧ (relof M h ((k : Int) + 1) = 1 → ((k : Int) + 1) ∈ L) := by
  constructor
  · exact fun g => ⟨fun c hc => g c (by omega), g k (by omega)⟩
  · rintro ⟨g1, g2⟩ c hc
    by_cases e : c = k
    · subst e; exact g2
    · exact g1 c (by omega)
/-- The first that may follow. -/
def nxt (M : List (List Int)) (L : List Int) : Option Nat := (List.range M.length).find? (fun k => decide (Rdy M L ((k : Int) + 1)))
def None' (M : List (List Int)) (L : List Int) (k : Nat) : Prop := ∀ j : Nat, j < k → ¬ Rdy M L ((j : Int) + 1)
theorem nxt_some {M : List (List Int)} {L : List Int} {k : Nat} (hk : k < M.length) (hr : Rdy M L ((k : Int) + 1)) (hn : None' M L k) : nxt M L = some k := by
  unfold nxt
  rw [List.find?_range_eq_some]
  refine ⟨by simp [hr], by simpa using hk, fun j hj => by simpa using hn j hj⟩
theorem nxt_none {M : List (List Int)} {L : List Int} (hn : None' M L M.length) : nxt M L = none := by
  unfold nxt
  rw [List.find?_range_eq_none]
  exact fun j hj => by simpa using hn j hj
theorem nxt_is {M : List (List Int)} {L : List Int} {k : Nat} (h : nxt M L = some k) : k < M.length ∧ Rdy M L ((k : Int) + 1) := by
  unfold nxt at h
  rw [List.find?_range_eq_some] at h
  exact ⟨by simpa using h.2.1, by simpa using h.1⟩
theorem nxt_no {M : List (List Int)} {L : List Int} (h : nxt M L = none) : None' M L M.length := by
  unfold nxt at h
  rw [List.find?_range_eq_none] at h
  exact fun j hj => by simpa using h j hj
theorem none_step {M : List (List Int)} {L : List Int} {k : Nat} (hn : None' M L k) (hr : ¬ Rdy M L ((k : Int) + 1)) : None' M L (k + 1) := fun j hj => by
  by_cases e : j = k
  · subst e; exact hr
  · exact hn j (by omega)
def grow (M : List (List Int)) : Nat → List Int
  | 0 => []
  | j + 1 => match nxt M (grow M j) with
    | some k => grow M j ++ [(k : Int) + 1]
    | none => grow M j
theorem grow_some {M : List (List Int)} {j k : Nat} (h : nxt M (grow M j) = some k) : grow M (j + 1) = grow M j ++ [(k : Int) + 1] := by
  show (match nxt M (grow M j) with | some k => _ | none => _) = _; rw [h]
theorem grow_none {M : List (List Int)} {j : Nat} (h : nxt M (grow M j) = none) : grow M (j + 1) = grow M j := by
  show (match nxt M (grow M j) with | some k => _ | none => _) = _; rw [h]
theorem grow_len (M : List (List Int)) : ∀ j, (grow M j).length ≤ j
  | 0 => Nat.le_refl _
  | j + 1 => by
    have ih := grow_len M j
    cases h : nxt M (grow M j) with
    | some k => rw [grow_some h]; simp; omega
    | none => rw [grow_none h]; omega
theorem grow_stop {M : List (List Int)} {j : Nat} (h : nxt M (grow M j) = none) : ∀ i, grow M (j + i) = grow M j
  | 0 => rfl
  | i + 1 => by
    have ih := grow_stop h i
    show grow M (j + i + 1) = _
    rw [grow_none (by rw [ih]; exact h), ih]
/-- A row in which each house stands after its customers. -/
structure Good (M : List (List Int)) (L : List Int) : Prop where
  nodup : L.Nodup
  bd : ∀ x ∈ L, Bts x 1 M.length
  first : ∀ (i : Nat) (a b : Int), L[i]? = some a → relof M a b = 1 → ∃ j, j < i ∧ L[j]? = some b
theorem relof_bts {M : List (List Int)} {a b : Int} (h : relof M a b = 1) : RelsP M ∧ Bts a 1 M.length ∧ Bts b 1 M.length := by
  unfold relof at h
  split at h
  · assumption
  · omega
theorem good_nil (M : List (List Int)) : Good M [] := ⟨List.nodup_nil, fun x h => by simp at h, fun i a b h => by simp at h⟩
theorem good_step {M : List (List Int)} {L : List Int} {k : Nat} (h : Good M L) (hk : k < M.length) (hr : Rdy M L ((k : Int) + 1)) : Good M (L ++ [(k : Int) + 1]) := by
  refine ⟨?_, ?_, ?_⟩
  · rw [List.nodup_append]
    refine ⟨h.nodup, by simp, fun a ha b hb => ?_⟩
    rw [List.mem_singleton.1 hb]
    intro e; rw [e] at ha; exact hr.1 ha
  · intro x hx
    rcases List.mem_append.1 hx with hx | hx
    · exact h.bd x hx
    · rw [List.mem_singleton.1 hx]; unfold Bts; omega
  · intro i a b ha hab
    by_cases hi : i < L.length
    · rw [List.getElem?_append_left hi] at ha
      obtain ⟨j, hj, hb⟩ := h.first i a b ha hab
      exact ⟨j, hj, by rw [List.getElem?_append_left (by omega)]; exact hb⟩
    · rw [List.getElem?_append_right (by omega)] at ha
      have e : a = (k : Int) + 1 := List.mem_singleton.1 (List.mem_of_getElem? ha)
      subst e
      obtain ⟨_, _, hb1, hb2⟩ := relof_bts hab
      have hm := hr.2 (b - 1).toNat (by omega) (by rw [show (((b - 1).toNat : Nat) : Int) + 1 = b by omega]; exact hab)
      rw [show (((b - 1).toNat : Nat) : Int) + 1 = b by omega] at hm
      obtain ⟨j, hj, e⟩ := List.getElem_of_mem hm
      exact ⟨j, by omega, by rw [List.getElem?_append_left hj, List.getElem?_eq_getElem hj, e]⟩
theorem good_grow (M : List (List Int)) : ∀ j, Good M (grow M j)
  | 0 => good_nil M
  | j + 1 => by
    cases h : nxt M (grow M j) with
    | some k => rw [grow_some h]; exact good_step (good_grow M j) (nxt_is h).1 (nxt_is h).2
    | none => rw [grow_none h]; exact good_grow M j
abbrev ord (M : List (List Int)) : List Int := grow M M.length
/-- The relations let all houses be set in order. -/
def FreeP (M : List (List Int)) : Prop := RelsP M ∧ (ord M).length = M.length
instance (M : List (List Int)) : Decidable (FreeP M) := by unfold FreeP; infer_instance
/-- Each house has a rank above its customers' ranks. -/
def Ranked (M : List (List Int)) : Prop := ∃ rk : Int → Nat, ∀ a b, relof M a b = 1 → rk b < rk a
theorem nodup_len : ∀ (L K : List Int), L.Nodup → (∀ x ∈ L, x ∈ K) → L.length ≤ K.length
  | [], K, _, _ => Nat.zero_le _
  | x :: L, K, hn, hs => by
    rw [List.nodup_cons] at hn
    have hx := hs x (List.mem_cons_self ..)
    have ih := nodup_len L (K.erase x) hn.2 (fun y hy => (List.mem_erase_of_ne (show y ≠ x from fun e => hn.1 (by rw [← e]; exact hy))).2 (hs y (List.mem_cons_of_mem _ hy)))
    rw [List.length_erase_of_mem hx] at ih
    have := List.length_pos_of_mem hx
    simp only [List.length_cons]; omega
/-- 1 .. n. -/
def upto (n : Nat) : List Int := (List.range n).map (fun k : Nat => (k : Int) + 1)
theorem upto_len (n : Nat) : (upto n).length = n := by simp [upto]
theorem mem_upto {n : Nat} {x : Int} : x ∈ upto n ↔ Bts x 1 n := by
  unfold upto Bts
  constructor
  · intro h
    obtain ⟨k, hk, rfl⟩ := List.mem_map.1 h
    have := List.mem_range.1 hk; omega
  · rintro ⟨h1, h2⟩
    exact List.mem_map.2 ⟨(x - 1).toNat, List.mem_range.2 (by omega), by omega⟩
theorem upto_nodup (n : Nat) : (upto n).Nodup := List.pairwise_map.2 (List.nodup_range.imp (fun h e => h (by omega)))
theorem len_full {n : Nat} {L : List Int} (hn : L.Nodup) (hb : ∀ x ∈ L, Bts x 1 n) (hl : L.length = n) {x : Int} (hx : Bts x 1 n) : x ∈ L := by
  refine Classical.byContradiction fun hno => ?_
  have := nodup_len (x :: L) (upto n) (List.nodup_cons.2 ⟨hno, hn⟩) (fun y hy => by
    rcases List.mem_cons.1 hy with rfl | hy
    · exact mem_upto.2 hx
    · exact mem_upto.2 (hb y hy))
  rw [upto_len] at this
  simp only [List.length_cons] at this; omega
theorem idx_le {b : Int} : ∀ (L : List Int) (j : Nat), L[j]? = some b → L.idxOf b ≤ j
  | [], j, h => by simp at h
  | x :: L, 0, h => by simp at h; simp [h]
  | x :: L, j + 1, h => by
    have ih := idx_le L j (by simpa using h)
    rw [List.idxOf_cons]
    cases (x == b) <;> simp; omega
theorem free_ranked {M : List (List Int)} (h : FreeP M) : Ranked M := by
  have hg := good_grow M M.length
  refine ⟨fun a => (ord M).idxOf a, fun a b hab => ?_⟩
  obtain ⟨_, ha, hb⟩ := relof_bts hab
  have ma := len_full hg.nodup hg.bd h.2 ha
  have la := List.idxOf_lt_length_iff.2 ma
  have ea : (ord M)[(ord M).idxOf a]? = some a := by rw [List.getElem?_eq_getElem la]; simp
  obtain ⟨j, hj, eb⟩ := hg.first _ a b ea hab
  exact Nat.lt_of_le_of_lt (idx_le _ _ eb) hj
theorem ranked_go {M : List (List Int)} (h : Ranked M) {L : List Int} {x : Int} (hx : Bts x 1 M.length) (hxL : x ∉ L) : nxt M L ≠ none := by
  intro hn
  have hno := nxt_no hn
  obtain ⟨rk, hrk⟩ := h
  suffices ∀ (m : Nat) (x : Int), rk x ≤ m → Bts x 1 M.length → x ∉ L → False from this _ x (Nat.le_refl _) hx hxL
  intro m
  induction m with
  | zero =>
    intro x h0 hx hxL
    obtain ⟨x1, x2⟩ := hx
    refine hno (x - 1).toNat (by omega) ?_
    rw [show (((x - 1).toNat : Nat) : Int) + 1 = x by omega]
    exact ⟨hxL, fun c _ hab => by have := hrk _ _ hab; omega⟩
  | succ m ih =>
    intro x h0 hx hxL
    obtain ⟨x1, x2⟩ := hx
    refine hno (x - 1).toNat (by omega) ?_
    rw [show (((x - 1).toNat : Nat) : Int) + 1 = x by omega]
    refine ⟨hxL, fun c _ hab => ?_⟩
    by_cases hc : ((c : Int) + 1) ∈ L
    · exact hc
    · have := hrk _ _ hab
      exact (ih _ (by omega) (relof_bts hab).2.2 hc).elim
theorem ranked_free {M : List (List Int)} (hp : RelsP M) (h : Ranked M) : FreeP M := by
  refine ⟨hp, ?_⟩
  suffices ∀ j, j ≤ M.length → (grow M j).length = j from this _ (Nat.le_refl _)
  intro j
  induction j with
  | zero => exact fun _ => rfl
  | succ j ih =>
    intro hj
    have hl := ih (by omega)
    have hg := good_grow M j
    have : ∃ x : Int, Bts x 1 M.length ∧ x ∉ grow M j := by
      refine Classical.byContradiction fun hno => ?_
      have := nodup_len (upto M.length) (grow M j) (upto_nodup _) (fun y hy => Classical.byContradiction fun hy' => hno ⟨y, mem_upto.1 hy, hy'⟩)
      rw [upto_len] at this; omega
    obtain ⟨x, hx, hxL⟩ := this
    cases hnx : nxt M (grow M j) with
    | some k => rw [grow_some hnx]; simp [hl]
    | none => exact (ranked_go h hx hxL hnx).elim
theorem free_iff (M : List (List Int)) : FreeP M ↔ RelsP M ∧ Ranked M := ⟨fun h => ⟨h.1, free_ranked h⟩, fun h => ranked_free h.1 h.2⟩
end Go.Proofs.Ytfckmgeakdbdfaa
