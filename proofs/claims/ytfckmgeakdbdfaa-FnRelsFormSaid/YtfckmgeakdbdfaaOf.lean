/- Rings of customers: plain. -/
import Derived.Test.YtfckmgeakdbdfaaOa
set_option linter.unusedSimpArgs false
set_option linter.unusedVariables false
namespace Go.Proofs.Ytfckmgeakdbdfaa
open Go.RowKit

/-- The customers of a, up to the k-th house, that were not yet seen, are seen, and are next. -/
def ccol (M : List (List Int)) (a : Int) (s : List Int × List Int) : Nat → List Int × List Int
  | 0 => s
  | k + 1 => if relof M a ((k : Int) + 1) = 1 ∧ ((k : Int) + 1) ∉ (ccol M a s k).1 then ((ccol M a s k).1 ++ [(k : Int) + 1], (ccol M a s k).2 ++ [(k : Int) + 1]) else ccol M a s k
def crow (M : List (List Int)) (at' : List Int) (s : List Int × List Int) : Nat → List Int × List Int
  | 0 => s
  | i + 1 => ccol M (at'.getD i 0) (crow M at' s i) M.length
def cround (M : List (List Int)) (h : Int) : Nat → List Int × List Int
  | 0 => ([], [h])
  | r + 1 => crow M (cround M h r).2 ((cround M h r).1, []) (cround M h r).2.length
/-- What is seen from a house. -/
def seen (M : List (List Int)) (h : Int) : List Int := (cround M h M.length).1
theorem ccol_yes {M : List (List Int)} {a : Int} {s : List Int × List Int} {k : Nat} {u v : List Int} (e : ccol M a s k = (u, v)) (h1 : relof M a ((k : Int) + 1) = 1) (h2 : ((k : Int) + 1) ∉ u) : ccol M a s (k + 1) = (u ++ [(k : Int) + 1], v ++ [(k : Int) + 1]) := by
  show (if _ then _ else _) = _
  rw [e, if_pos ⟨h1, h2⟩]
theorem ccol_no {M : List (List Int)} {a : Int} {s : List Int × List Int} {k : Nat} {u v : List Int} (e : ccol M a s k = (u, v)) (h : ¬ (relof M a ((k : Int) + 1) = 1 ∧ ((k : Int) + 1) ∉ u)) : ccol M a s (k + 1) = (u, v) := by
  show (if _ then _ else _) = _
  rw [e, if_neg h]
theorem crow_step {M : List (List Int)} {at' : List Int} {s : List Int × List Int} {i : Nat} {x : Int} (hx : at'[i]? = some x) : crow M at' s (i + 1) = ccol M x (crow M at' s i) M.length := by
  show ccol M (at'.getD i 0) _ _ = _
  rw [show at'.getD i 0 = x by simp [List.getD, hx]]

/-- What a search has done, from seen and next s to s'; those of A have been searched, up to house k the last. -/
structure Srch (M : List (List Int)) (D : Int → Int → Prop) (s s' : List Int × List Int) : Prop where
  sub : ∀ x ∈ s.1, x ∈ s'.1
  all : ∀ a c, D a c → relof M a c = 1 → c ∈ s'.1
  new1 : ∀ x ∈ s'.1, x ∈ s.1 ∨ ((∃ a, (∃ c, D a c) ∧ relof M a x = 1) ∧ x ∈ s'.2)
  new2 : ∀ x ∈ s'.2, x ∈ s.2 ∨ x ∈ s'.1
  sub2 : ∀ x ∈ s.2, x ∈ s'.2
  len : s'.1.length + s.2.length = s.1.length + s'.2.length
  nod : s.1.Nodup → s'.1.Nodup
theorem Srch.refl (M : List (List Int)) (s : List Int × List Int) : Srch M (fun _ _ => False) s s :=
  ⟨fun _ h => h, fun _ _ h => h.elim, fun _ h => Or.inl h, fun _ h => Or.inl h, fun _ h => h, rfl, id⟩
theorem Srch.mono {M : List (List Int)} {D D' : Int → Int → Prop} {s s' : List Int × List Int} (h : Srch M D s s') (h1 : ∀ a c, D a c → ∃ c', D' a c') (h2 : ∀ a c, D' a c → relof M a c = 1 → D a c) : Srch M D' s s' :=
  ⟨h.sub, fun a c hd hr => h.all a c (h2 a c hd hr) hr, fun x hx => by
    rcases h.new1 x hx with h | ⟨⟨a, ⟨c, hc⟩, hr⟩, hx2⟩
    · exact Or.inl h
    · exact Or.inr ⟨⟨a, h1 a c hc, hr⟩, hx2⟩, h.new2, h.sub2, h.len, h.nod⟩
theorem Srch.trans {M : List (List Int)} {D D' : Int → Int → Prop} {s s' s'' : List Int × List Int} (h : Srch M D s s') (k : Srch M D' s' s'') : Srch M (fun a c => D a c ∨ D' a c) s s'' :=
  ⟨fun x hx => k.sub x (h.sub x hx), fun a c hd hr => hd.elim (fun g => k.sub _ (h.all a c g hr)) (fun g => k.all a c g hr), fun x hx => by
    rcases k.new1 x hx with h1 | ⟨⟨a, ⟨c, hc⟩, hr⟩, hx2⟩
    · rcases h.new1 x h1 with h2 | ⟨⟨a, ⟨c, hc⟩, hr⟩, hx2⟩
      · exact Or.inl h2
      · exact Or.inr ⟨⟨a, ⟨c, Or.inl hc⟩, hr⟩, k.sub2 _ hx2⟩
    · exact Or.inr ⟨⟨a, ⟨c, Or.inr hc⟩, hr⟩, hx2⟩, fun x hx => by
    rcases k.new2 x hx with h1 | h1
    · rcases h.new2 x h1 with h2 | h2
      · exact Or.inl h2
      · exact Or.inr (k.sub _ h2)
    · exact Or.inr h1, fun x hx => k.sub2 x (h.sub2 x hx), by have := h.len; have := k.len; omega, fun g => k.nod (h.nod g)⟩
theorem srch_col (M : List (List Int)) (a : Int) (s : List Int × List Int) : ∀ k : Nat, Srch M (fun a' c => a' = a ∧ 1 ≤ c ∧ c ≤ k) s (ccol M a s k)
  | 0 => (Srch.refl M s).mono (fun _ _ h => h.elim) (fun _ _ h _ => by omega)
  | k + 1 => by
    have ih := srch_col M a s k
    rcases he : ccol M a s k with ⟨u, v⟩
    rw [he] at ih
    by_cases hc : relof M a ((k : Int) + 1) = 1 ∧ ((k : Int) + 1) ∉ u
    · rw [ccol_yes he hc.1 hc.2]
      refine ⟨fun x hx => List.mem_append.2 (Or.inl (ih.sub x hx)), fun a' c hd hr => ?_, fun x hx => ?_, fun x hx => ?_, fun x hx => List.mem_append.2 (Or.inl (ih.sub2 x hx)), ?_, fun g => ?_⟩
      · by_cases e : c = (k : Int) + 1
        · subst e; simp
        · exact List.mem_append.2 (Or.inl (ih.all a' c ⟨hd.1, hd.2.1, by have := hd.2.2; omega⟩ hr))
      · rcases List.mem_append.1 hx with hx | hx
        · rcases ih.new1 x hx with h | ⟨⟨a', ⟨c, hc'⟩, hr⟩, hx2⟩
          · exact Or.inl h
          · exact Or.inr ⟨⟨a', ⟨c, hc'.1, hc'.2.1, by omega⟩, hr⟩, List.mem_append.2 (Or.inl hx2)⟩
        · rw [List.mem_singleton.1 hx]
          exact Or.inr ⟨⟨a, ⟨(k : Int) + 1, rfl, by omega, by omega⟩, hc.1⟩, by simp⟩
      · rcases List.mem_append.1 hx with hx | hx
        · exact (ih.new2 x hx).imp id (fun h => List.mem_append.2 (Or.inl h))
        · rw [List.mem_singleton.1 hx]; exact Or.inr (by simp)
      · have := ih.len; simp only [List.length_append, List.length_cons, List.length_nil] at *; omega
      · dsimp only
        rw [List.nodup_append]
        exact ⟨ih.nod g, by simp, fun x hx y hy => by rw [List.mem_singleton.1 hy]; rintro rfl; exact hc.2 hx⟩
    · rw [ccol_no he hc]
      refine ⟨ih.sub, fun a' c hd hr => ?_, fun x hx => ?_, ih.new2, ih.sub2, ih.len, ih.nod⟩
      · by_cases e : c = (k : Int) + 1
        · subst e
          rw [hd.1] at hr
          exact Classical.byContradiction fun g => hc ⟨hr, g⟩
        · exact ih.all a' c ⟨hd.1, hd.2.1, by have := hd.2.2; omega⟩ hr
      · rcases ih.new1 x hx with h | ⟨⟨a', ⟨c, hc'⟩, hr⟩, hx2⟩
        · exact Or.inl h
        · exact Or.inr ⟨⟨a', ⟨c, hc'.1, hc'.2.1, by omega⟩, hr⟩, hx2⟩
theorem srch_row (M : List (List Int)) (at' : List Int) (s : List Int × List Int) : ∀ i : Nat, i ≤ at'.length → Srch M (fun a c => a ∈ at'.take i ∧ 1 ≤ c ∧ c ≤ M.length) s (crow M at' s i)
  | 0, _ => (Srch.refl M s).mono (fun _ _ h => h.elim) (fun _ _ h _ => by simp at h)
  | i + 1, hi => by
    have ih := srch_row M at' s i (by omega)
    obtain ⟨x, hx⟩ := get_lt (L := at') (k := i) (by omega)
    rw [crow_step hx]
    refine (ih.trans (srch_col M x _ M.length)).mono (fun a c hd => ?_) (fun a c hd _ => ?_)
    · rcases hd with hd | hd
      · exact ⟨c, by rw [take_succ' hx]; exact List.mem_append.2 (Or.inl hd.1), hd.2⟩
      · exact ⟨c, by rw [take_succ' hx, hd.1]; simp, hd.2⟩
    · obtain ⟨h1, h2⟩ := hd
      rw [take_succ' hx] at h1
      rcases List.mem_append.1 h1 with h1 | h1
      · exact Or.inl ⟨h1, h2⟩
      · exact Or.inr ⟨List.mem_singleton.1 h1, h2⟩
/-- x is a customer of h, or of a customer, and so on. -/
def Under (M : List (List Int)) (h x : Int) : Prop := ∀ S : Int → Prop, (∀ c, relof M h c = 1 → S c) → (∀ a c, S a → relof M a c = 1 → S c) → S x
structure Rnd (M : List (List Int)) (h : Int) (r : Nat) (s : List Int × List Int) : Prop where
  under : ∀ x ∈ s.1, Under M h x
  on : ∀ x ∈ s.2, x = h ∨ x ∈ s.1
  shut : ∀ a, (a = h ∨ a ∈ s.1) → a ∉ s.2 → ∀ c, relof M a c = 1 → c ∈ s.1
  many : s.2 = [] ∨ r ≤ s.1.length
  nod : s.1.Nodup
  bd : ∀ x ∈ s.1, Bts x 1 M.length
theorem rnd (M : List (List Int)) (h : Int) : ∀ r, Rnd M h r (cround M h r)
  | 0 => ⟨fun x hx => by simp [cround] at hx, fun x hx => by simp [cround] at hx; exact Or.inl hx, fun a ha hn => by
      rcases ha with rfl | ha
      · exact (hn (by simp [cround])).elim
      · simp [cround] at ha, Or.inr (Nat.zero_le _), by simp [cround], fun x hx => by simp [cround] at hx⟩
  | r + 1 => by
    have ih := rnd M h r
    show Rnd M h (r + 1) (crow M (cround M h r).2 ((cround M h r).1, []) (cround M h r).2.length)
    rcases he : cround M h r with ⟨u, v⟩
    rw [he] at ih
    have hS := srch_row M v (u, []) v.length (Nat.le_refl _)
    rw [List.take_length] at hS
    dsimp only
    generalize crow M v (u, []) v.length = t at hS
    have hund : ∀ a, a ∈ v → ∀ x, relof M a x = 1 → Under M h x := fun a ha x hr S g1 g2 => by
      rcases ih.on a ha with rfl | ha
      · exact g1 _ hr
      · exact g2 _ _ (ih.under a ha S g1 g2) hr
    refine ⟨fun x hx => ?_, fun x hx => ?_, fun a ha hn c hr => ?_, ?_, hS.nod ih.nod, fun x hx => ?_⟩
    · rcases hS.new1 x hx with g | ⟨⟨a, ⟨c, hc⟩, hr⟩, _⟩
      · exact ih.under x g
      · exact hund a hc.1 x hr
    · rcases hS.new2 x hx with g | g
      · cases g
      · exact Or.inr g
    · by_cases hv : a ∈ v
      · obtain ⟨_, _, hb1, hb2⟩ := relof_bts hr
        exact hS.all a c ⟨hv, hb1, hb2⟩ hr
      · rcases ha with rfl | ha
        · exact hS.sub _ (ih.shut _ (Or.inl rfl) hv c hr)
        · rcases hS.new1 a ha with g | ⟨_, g⟩
          · exact hS.sub _ (ih.shut a (Or.inr g) hv c hr)
          · exact (hn g).elim
    · by_cases hv : v = []
      · left
        have hl := hS.len
        subst hv
        refine List.eq_nil_iff_forall_not_mem.2 fun x hx => ?_
        have hsub : ∀ y ∈ t.1, y ∈ u := fun y hy => by
          rcases hS.new1 y hy with g | ⟨⟨a, ⟨c, hc⟩, _⟩, _⟩
          · exact g
          · cases hc.1
        have := nodup_len t.1 u (hS.nod ih.nod) hsub
        simp only [List.length_nil] at hl
        have h0 : t.2.length = 0 := by omega
        rw [List.length_eq_zero_iff.1 h0] at hx; cases hx
      · by_cases ht : t.2 = []
        · exact Or.inl ht
        · right
          have h1 := ih.many.resolve_left hv
          have hl := hS.len
          have := List.length_pos_iff.2 ht
          simp only [List.length_nil] at hl h1; omega
    · rcases hS.new1 x hx with g | ⟨⟨a, _, hr⟩, _⟩
      · exact ih.bd x g
      · exact (relof_bts hr).2.2
theorem seen_shut {M : List (List Int)} {h : Int} (a : Int) (ha : a = h ∨ a ∈ seen M h) {c : Int} (hr : relof M a c = 1) : c ∈ seen M h := by
  have g := rnd M h M.length
  unfold seen at *
  generalize cround M h M.length = s at *
  rcases g.many with h0 | h0
  · exact g.shut a ha (by rw [h0]; simp) c hr
  · have hle := nodup_len s.1 (upto M.length) g.nod (fun y hy => mem_upto.2 (g.bd y hy))
    rw [upto_len] at hle
    exact len_full g.nod g.bd (by omega) (relof_bts hr).2.2
theorem seen_under {M : List (List Int)} {h x : Int} (hx : x ∈ seen M h) : Under M h x := (rnd M h M.length).under x hx
theorem free_ring {M : List (List Int)} (hp : RelsP M) : FreeP M ↔ ∀ h : Nat, h < M.length → ((h : Int) + 1) ∉ seen M ((h : Int) + 1) := by
  rw [free_iff]
  constructor
  · rintro ⟨_, rk, hrk⟩ h _ hs
    have := seen_under hs (fun x => rk x < rk ((h : Int) + 1)) (fun c hc => hrk _ _ hc) (fun a c ha hc => Nat.lt_trans (hrk _ _ hc) ha)
    exact absurd this (Nat.lt_irrefl _)
  · intro hno
    refine ⟨hp, fun a => (seen M a).length, fun a b hab => ?_⟩
    obtain ⟨_, ha, hb⟩ := relof_bts hab
    have hba : b ∈ seen M a := seen_shut a (Or.inl rfl) hab
    have hbb : b ∉ seen M b := by
      obtain ⟨b1, b2⟩ := hb
      have := hno (b - 1).toNat (by omega)
      rwa [show (((b - 1).toNat : Nat) : Int) + 1 = b by omega] at this
    have hsub : ∀ x ∈ seen M b, x ∈ seen M a := fun x hx =>
      seen_under hx (fun y => y ∈ seen M a) (fun c hc => seen_shut b (Or.inr hba) hc) (fun a' c ha' hc => seen_shut a' (Or.inr ha') hc)
    have := nodup_len (b :: seen M b) (seen M a) (List.nodup_cons.2 ⟨hbb, (rnd M b M.length).nod⟩) (fun y hy => by
      rcases List.mem_cons.1 hy with rfl | hy
      · exact hba
      · exact hsub y hy)
    simp only [List.length_cons] at this
    show (seen M b).length < (seen M a).length
    omega
end Go.Proofs.Ytfckmgeakdbdfaa
