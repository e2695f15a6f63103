/- Tables: plain. -/
import Derived.Test.YtbhenfegklgkoaaTc
set_option linter.unusedSimpArgs false
set_option linter.unusedVariables false
namespace Go.Proofs.Ytbhenfegklgkoaa
open Go.RowKit

theorem rcmp_lt (f b g c : Int) : rcmp f b g c < 0 ↔ f < g ∨ f = g ∧ b < c := by
  unfold rcmp icmp; repeat' split
  all_goals omega
theorem rcmp_eq (f b g c : Int) : rcmp f b g c = 0 ↔ f = g ∧ b = c := by
  unfold rcmp icmp; repeat' split
  all_goals omega
abbrev Lt (a b : Ent) : Prop := ecmp a b < 0
theorem lt_iff (a b : Ent) : Lt a b ↔ a.1 < b.1 ∨ a.1 = b.1 ∧ a.2.1 < b.2.1 := rcmp_lt _ _ _ _
theorem eq_iff (a b : Ent) : ecmp a b = 0 ↔ a.1 = b.1 ∧ a.2.1 = b.2.1 := rcmp_eq _ _ _ _
theorem Lt.trans {a b c : Ent} (h : Lt a b) (k : Lt b c) : Lt a c := by rw [lt_iff] at *; omega
theorem Lt.ne {a b : Ent} (h : Lt a b) : ecmp a b ≠ 0 := by omega
theorem gt_iff (a b : Ent) : 0 < ecmp a b ↔ Lt b a := by
  rw [lt_iff]
  have h1 := lt_iff a b
  have h2 := eq_iff a b
  unfold Lt at h1
  constructor
  · intro h; omega
  · intro h; omega
theorem eq_symm {a b : Ent} : ecmp a b = 0 ↔ ecmp b a = 0 := by rw [eq_iff, eq_iff]; omega
abbrev Srt (T : List Ent) : Prop := T.Pairwise Lt
theorem tok_srt {T : List Ent} (h : TOk T) : Srt T := by
  unfold Srt
  rw [List.pairwise_iff_getElem]
  suffices ∀ d i, (hj : i + d + 1 < T.length) → Lt (T[i]'(by omega)) (T[i + d + 1]'hj) by
    intro i j hi hj hij
    have := this (j - i - 1) i (by omega)
    simpa [show i + (j - i - 1) + 1 = j by omega] using this
  intro d
  induction d with
  | zero =>
    intro i hj
    have g := ((h.1 (i + 1) (by omega)).2 (by omega))
    rw [show i + 1 - 1 = i by omega, getD_of (List.getElem?_eq_getElem (show i < T.length by omega)), getD_of (List.getElem?_eq_getElem (show i + 1 < T.length by omega))] at g
    exact g
  | succ d ih =>
    intro i hj
    have g1 := ih i (by omega)
    have g := ((h.1 (i + d + 1 + 1) (by omega)).2 (by omega))
    rw [show i + d + 1 + 1 - 1 = i + d + 1 by omega, getD_of (List.getElem?_eq_getElem (show i + d + 1 < T.length by omega)), getD_of (List.getElem?_eq_getElem (show i + d + 1 + 1 < T.length by omega))] at g
    exact g1.trans g
theorem tok_ep {T : List Ent} (h : TOk T) {x : Ent} (hx : x ∈ T) : EP x := by
  obtain ⟨i, hi, rfl⟩ := List.getElem_of_mem hx
  have := (h.1 i hi).1
  rwa [getD_of (List.getElem?_eq_getElem hi)] at this
theorem tok_mk {T : List Ent} (h1 : ∀ x ∈ T, EP x) (h2 : Srt T) (h3 : T.length ≤ 12) : TOk T := by
  refine ⟨fun i hi => ?_, h3⟩
  unfold StepOk
  rw [getD_of (List.getElem?_eq_getElem hi)]
  refine ⟨h1 _ (List.getElem_mem hi), fun h0 => ?_⟩
  rw [getD_of (List.getElem?_eq_getElem (show i - 1 < T.length by omega))]
  exact List.pairwise_iff_getElem.1 h2 (i - 1) i (by omega) hi (by omega)
theorem srt_ext : ∀ {T U : List Ent}, Srt T → Srt U → (∀ x, x ∈ T ↔ x ∈ U) → T = U
  | [], [], _, _, _ => rfl
  | [], y :: U, _, _, h => by have := (h y).2 (by simp); cases this
  | x :: T, [], _, _, h => by have := (h x).1 (by simp); cases this
  | x :: T, y :: U, h1, h2, h => by
    rw [Srt, List.pairwise_cons] at h1 h2
    have hxy : x = y := by
      rcases List.mem_cons.1 ((h x).1 (by simp)) with e | e
      · exact e
      · rcases List.mem_cons.1 ((h y).2 (by simp)) with e' | e'
        · exact e'.symm
        · exact absurd (Lt.trans (h1.1 y e') (h2.1 x e)) (fun g => by rw [lt_iff] at g; omega)
    subst hxy
    rw [srt_ext h1.2 h2.2 (fun z => by
      constructor
      · intro hz
        rcases List.mem_cons.1 ((h z).1 (List.mem_cons_of_mem _ hz)) with e | e
        · subst e; exact absurd (h1.1 z hz) (fun g => by rw [lt_iff] at g; omega)
        · exact e
      · intro hz
        rcases List.mem_cons.1 ((h z).2 (List.mem_cons_of_mem _ hz)) with e | e
        · subst e; exact absurd (h2.1 z hz) (fun g => by rw [lt_iff] at g; omega)
        · exact e)]
/-- e where it belongs. -/
def ins (e : Ent) : List Ent → List Ent
  | [] => [e]
  | x :: T => if ecmp x e < 0 then x :: ins e T else if ecmp x e = 0 then e :: T else e :: x :: T
theorem ins_mem {e : Ent} : ∀ {T : List Ent}, Srt T → ∀ {y : Ent}, y ∈ ins e T ↔ y = e ∨ (y ∈ T ∧ ecmp y e ≠ 0)
  | [], _, y => by simp [ins]
  | x :: T, h, y => by
    rw [Srt, List.pairwise_cons] at h
    unfold ins
    split
    · rename_i hc
      rw [List.mem_cons, ins_mem h.2, List.mem_cons]
      constructor
      · rintro (rfl | rfl | ⟨h1, h2⟩)
        · exact Or.inr ⟨Or.inl rfl, by omega⟩
        · exact Or.inl rfl
        · exact Or.inr ⟨Or.inr h1, h2⟩
      · rintro (rfl | ⟨rfl | h1, h2⟩)
        · exact Or.inr (Or.inl rfl)
        · exact Or.inl rfl
        · exact Or.inr (Or.inr ⟨h1, h2⟩)
    · rename_i hc
      split
      · rename_i h0
        rw [List.mem_cons, List.mem_cons]
        constructor
        · rintro (rfl | h1)
          · exact Or.inl rfl
          · refine Or.inr ⟨Or.inr h1, fun g => ?_⟩
            have := h.1 y h1
            rw [eq_iff] at h0 g; rw [lt_iff] at this; omega
        · rintro (rfl | ⟨rfl | h1, h2⟩)
          · exact Or.inl rfl
          · exact absurd h0 h2
          · exact Or.inr h1
      · rename_i h0
        rw [List.mem_cons, List.mem_cons]
        constructor
        · rintro (rfl | rfl | h1)
          · exact Or.inl rfl
          · exact Or.inr ⟨Or.inl rfl, h0⟩
          · refine Or.inr ⟨Or.inr h1, fun g => ?_⟩
            have := h.1 y h1
            rw [eq_iff] at g; rw [lt_iff] at this
            have h3 : Lt e x := (gt_iff x e).1 (by omega)
            rw [lt_iff] at h3; omega
        · rintro (rfl | ⟨rfl | h1, h2⟩)
          · exact Or.inl rfl
          · exact Or.inr (Or.inl rfl)
          · exact Or.inr (Or.inr h1)
theorem ins_srt {e : Ent} : ∀ {T : List Ent}, Srt T → Srt (ins e T)
  | [], _ => by simp [ins]
  | x :: T, h => by
    have h0 := h
    rw [Srt, List.pairwise_cons] at h
    unfold ins
    split
    · rename_i hc
      refine List.pairwise_cons.2 ⟨fun y hy => ?_, ins_srt h.2⟩
      rcases (ins_mem h.2).1 hy with rfl | ⟨h1, _⟩
      · exact hc
      · exact h.1 y h1
    · rename_i hc
      split
      · rename_i h1
        refine List.pairwise_cons.2 ⟨fun y hy => ?_, h.2⟩
        have := h.1 y hy
        rw [eq_iff] at h1; rw [lt_iff] at this ⊢; omega
      · rename_i h1
        have h3 : Lt e x := (gt_iff x e).1 (by omega)
        refine List.pairwise_cons.2 ⟨fun y hy => ?_, h0⟩
        rcases List.mem_cons.1 hy with rfl | hy
        · exact h3
        · exact h3.trans (h.1 y hy)
theorem fold_true {e : Ent} : ∀ (T o : List Ent), (∀ x ∈ T, ecmp x e ≠ 0) → T.foldl (fun s x => pstF e x s) (o, true) = (o ++ T, true)
  | [], o, _ => by simp
  | x :: T, o, h => by
    have h1 := h x (by simp)
    rw [List.foldl_cons]
    rw [show pstF e x (o, true) = (o ++ [x], true) by unfold pstF; simp [h1]]
    rw [fold_true T (o ++ [x]) (fun y hy => h y (List.mem_cons_of_mem _ hy))]
    simp
def fin' (e : Ent) (s : List Ent × Bool) : List Ent := if s.2 then s.1 else s.1 ++ [e]
theorem fold_ins {e : Ent} : ∀ (T o : List Ent), Srt T → fin' e (T.foldl (fun s x => pstF e x s) (o, false)) = o ++ ins e T
  | [], o, _ => by simp [fin', ins]
  | x :: T, o, h => by
    rw [Srt, List.pairwise_cons] at h
    rw [List.foldl_cons]
    unfold ins
    split
    · rename_i hc
      rw [show pstF e x (o, false) = (o ++ [x], false) by
        unfold pstF
        have h1 : ¬ 0 ≤ ecmp x e := by omega
        have h2 : ecmp x e ≠ 0 := by omega
        simp [h1, h2]]
      rw [fold_ins T _ h.2]; simp
    · rename_i hc
      split
      · rename_i h0
        rw [show pstF e x (o, false) = (o ++ [e], true) by unfold pstF; simp [h0]]
        rw [fold_true T _ (fun y hy g => by
          have := h.1 y hy
          rw [eq_iff] at h0 g; rw [lt_iff] at this; omega)]
        simp [fin']
      · rename_i h0
        rw [show pstF e x (o, false) = (o ++ [e] ++ [x], true) by
          unfold pstF
          have h1 : 0 ≤ ecmp x e := by omega
          simp [h1, h0]]
        rw [fold_true T _ (fun y hy g => by
          have := h.1 y hy
          have h3 : Lt e x := (gt_iff x e).1 (by omega)
          rw [eq_iff] at g; rw [lt_iff] at this h3; omega)]
        simp [fin']
theorem pst_fold (e : Ent) (T : List Ent) : ∀ k, k ≤ T.length → pst e T k = (T.take k).foldl (fun s x => pstF e x s) ([], false)
  | 0, _ => rfl
  | k + 1, hk => by
    obtain ⟨x, hx⟩ := get_lt (L := T) (k := k) (by omega)
    rw [pst_s hx, pst_fold e T k (by omega), take_succ' hx, List.foldl_append]; rfl
theorem put_ins {T : List Ent} (h : Srt T) (e : Ent) : put T e = ins e T := by
  have := fold_ins (e := e) T [] h
  unfold put
  rw [pst_fold e T T.length (Nat.le_refl _), List.take_length]
  simpa [fin'] using this
theorem ins_len (e : Ent) : ∀ (T : List Ent), (ins e T).length ≤ T.length + 1
  | [] => by simp [ins]
  | x :: T => by
    have := ins_len e T
    unfold ins
    split
    · simp; omega
    · split <;> simp
/-- An entry for this range is there: e takes its place; else there is one more. -/
theorem ins_len' {e : Ent} : ∀ {T : List Ent}, Srt T → (ins e T).length = if ∃ x ∈ T, ecmp x e = 0 then T.length else T.length + 1
  | [], _ => by simp [ins]
  | x :: T, h => by
    rw [Srt, List.pairwise_cons] at h
    have ih := ins_len' (e := e) h.2
    unfold ins
    split
    · rename_i hc
      rw [List.length_cons, ih]
      by_cases g : ∃ x ∈ T, ecmp x e = 0
      · rw [if_pos g, if_pos (by obtain ⟨y, h1, h2⟩ := g; exact ⟨y, List.mem_cons_of_mem _ h1, h2⟩)]; rfl
      · rw [if_neg g, if_neg (by
          rintro ⟨y, h1, h2⟩
          rcases List.mem_cons.1 h1 with rfl | h1
          · omega
          · exact g ⟨y, h1, h2⟩)]; rfl
    · rename_i hc
      split
      · rename_i h0
        rw [if_pos ⟨x, by simp, h0⟩]; rfl
      · rename_i h0
        rw [if_neg (by
          rintro ⟨y, h1, h2⟩
          rcases List.mem_cons.1 h1 with rfl | h1
          · exact h0 h2
          · have := h.1 y h1
            have h3 : Lt e x := (gt_iff x e).1 (by omega)
            rw [eq_iff] at h2; rw [lt_iff] at this h3; omega)]; rfl
theorem ins_set {e : Ent} : ∀ {T : List Ent} {k : Nat} {y : Ent}, Srt T → T[k]? = some y → ecmp y e = 0 → T.set k e = ins e T
  | [], k, y, _, h, _ => by simp at h
  | x :: T, 0, y, h, hk, h0 => by
    simp at hk; subst hk
    unfold ins; rw [if_neg (by omega), if_pos h0]; rfl
  | x :: T, k + 1, y, h, hk, h0 => by
    rw [Srt, List.pairwise_cons] at h
    have hk' : T[k]? = some y := by simpa using hk
    have := h.1 y (List.mem_of_getElem? hk')
    unfold ins
    rw [if_pos (by rw [eq_iff] at h0; have := (lt_iff x y).1 this; exact (lt_iff x e).2 (by omega)), ← ins_set h.2 hk' h0]; rfl
theorem ins_at {e : Ent} : ∀ {T : List Ent} {k : Nat}, k ≤ T.length → (∀ i x, i < k → T[i]? = some x → ecmp x e < 0) → (∀ x, T[k]? = some x → 0 < ecmp x e) → T.take k ++ e :: T.drop k = ins e T
  | [], k, hk, _, _ => by
    have : k = 0 := by simpa using hk
    subst this; rfl
  | x :: T, 0, _, _, h2 => by
    have := h2 x rfl
    unfold ins; rw [if_neg (by omega), if_neg (by omega)]; rfl
  | x :: T, k + 1, hk, h1, h2 => by
    have h0 := h1 0 x (by omega) rfl
    unfold ins
    rw [if_pos h0, ← ins_at (e := e) (T := T) (k := k) (by simpa using hk) (fun i y hi hy => h1 (i + 1) y (by omega) (by simpa using hy)) (fun y hy => h2 y (by simpa using hy))]; rfl
theorem ins_tok {T : List Ent} {e : Ent} (h : TOk T) (he : EP e) (hl : (ins e T).length ≤ 12) : TOk (ins e T) := by
  refine tok_mk (fun x hx => ?_) (ins_srt (tok_srt h)) hl
  rcases (ins_mem (tok_srt h)).1 hx with rfl | ⟨h1, _⟩
  · exact he
  · exact tok_ep h h1
/-- T without the range r. -/
def offR (r : Int × Int) (x : Ent) : Bool := !(x.1 == r.1 && x.2.1 == r.2)
def drp (T : List Ent) (r : Int × Int) : List Ent := T.filter (offR r)
theorem offR_iff (r : Int × Int) (x : Ent) : offR r x = true ↔ ¬ (x.1 = r.1 ∧ x.2.1 = r.2) := by
  unfold offR
  by_cases h1 : x.1 = r.1 <;> by_cases h2 : x.2.1 = r.2 <;> simp [h1, h2]
theorem drp_mem {T : List Ent} {r : Int × Int} {x : Ent} : x ∈ drp T r ↔ x ∈ T ∧ ¬ (x.1 = r.1 ∧ x.2.1 = r.2) := by
  unfold drp; rw [List.mem_filter, offR_iff]
theorem drp_srt {T : List Ent} (h : Srt T) (r : Int × Int) : Srt (drp T r) := List.Pairwise.filter _ h
theorem drp_len (T : List Ent) (r : Int × Int) : (drp T r).length ≤ T.length := List.length_filter_le _ _
theorem drp_tok {T : List Ent} (h : TOk T) (r : Int × Int) : TOk (drp T r) :=
  tok_mk (fun x hx => tok_ep h (drp_mem.1 hx).1) (drp_srt (tok_srt h) r) (Nat.le_trans (drp_len T r) h.2)
/-- What a putting gives. -/
def tput (T : List Ent) (e : Ent) : List Ent × Bool := if TOk T ∧ EP e then (if 12 < (ins e T).length then (T, false) else (ins e T, true)) else ([], false)
def tdrp (T : List Ent) (r : Int × Int) : List Ent × Bool := if TOk T ∧ ROk r.1 r.2 then (drp T r, decide ((drp T r).length < T.length)) else ([], false)
theorem tput_ok {T : List Ent} {e : Ent} (h : (tput T e).2 = true) : TOk T ∧ EP e ∧ (ins e T).length ≤ 12 ∧ tput T e = (ins e T, true) ∧ TOk (ins e T) := by
  unfold tput at *
  split at h
  · rename_i g
    split at h
    · cases h
    · rename_i g2
      rw [if_pos g, if_neg g2]
      exact ⟨g.1, g.2, by omega, rfl, ins_tok g.1 g.2 (by omega)⟩
  · cases h
end Go.Proofs.Ytbhenfegklgkoaa
