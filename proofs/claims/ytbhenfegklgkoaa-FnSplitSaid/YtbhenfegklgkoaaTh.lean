/- Tries: plain. A node is a number: the root 1, below i stand 2*i and 2*i+1. -/
import Derived.Test.YtbhenfegklgkoaaTe
set_option linter.unusedSimpArgs false
set_option linter.unusedVariables false
namespace Go.Proofs.Ytbhenfegklgkoaa
open Go.RowKit

def up (a k : Nat) : Nat := (256 + a) / 2 ^ (8 - k)
theorem up_8 (a : Nat) : up a 8 = 256 + a := by simp [up]
theorem up_0 {a : Nat} (h : a < 256) : up a 0 = 1 := by unfold up; simp; omega
theorem up_half {a k : Nat} (hk : k < 8) : up a k = up a (k + 1) / 2 := by
  unfold up
  rw [Nat.div_div_eq_div_mul, ← Nat.pow_succ]
  congr 2; omega
theorem up_step {a k : Nat} (hk : k < 8) : up a (k + 1) = 2 * up a k + up a (k + 1) % 2 := by
  rw [up_half hk]; omega
theorem up_bd {a k : Nat} (ha : a < 256) (hk : k ≤ 8) : 2 ^ k ≤ up a k ∧ up a k < 2 ^ (k + 1) := by
  have : k = 0 ∨ k = 1 ∨ k = 2 ∨ k = 3 ∨ k = 4 ∨ k = 5 ∨ k = 6 ∨ k = 7 ∨ k = 8 := by omega
  unfold up
  rcases this with rfl | rfl | rfl | rfl | rfl | rfl | rfl | rfl | rfl <;> simp <;> omega
theorem up_depth {a b k j : Nat} (ha : a < 256) (hb : b < 256) (hk : k ≤ 8) (hj : j ≤ 8) (h : up a k = up b j) : k = j := by
  obtain ⟨h1, h2⟩ := up_bd ha hk
  obtain ⟨h3, h4⟩ := up_bd hb hj
  rw [h] at h1 h2
  rcases Nat.lt_trichotomy k j with g | g | g
  · have := Nat.pow_le_pow_right (show 0 < 2 by omega) (show k + 1 ≤ j by omega); omega
  · exact g
  · have := Nat.pow_le_pow_right (show 0 < 2 by omega) (show j + 1 ≤ k by omega); omega
theorem up_pos {a k : Nat} (ha : a < 256) (hk : k ≤ 8) : 1 ≤ up a k := by
  have := (up_bd ha hk).1
  have := Nat.one_le_two_pow (n := k); omega
/-- The bit that leads on from depth k. -/
theorem up_bit {a k : Nat} (hk : k < 8) : up a (k + 1) % 2 = a / 2 ^ (7 - k) % 2 := by
  have : k = 0 ∨ k = 1 ∨ k = 2 ∨ k = 3 ∨ k = 4 ∨ k = 5 ∨ k = 6 ∨ k = 7 := by omega
  unfold up
  rcases this with rfl | rfl | rfl | rfl | rfl | rfl | rfl | rfl <;> simp <;> omega
def eid (x : Ent) : Nat := up x.1.toNat x.2.1.toNat
theorem rok_cov {f b x : Int} (h : ROk f b) (h0 : 0 ≤ x) (h1 : x ≤ 255) : Cov f b x ↔ up x.toNat b.toNat = up f.toNat b.toNat := by
  obtain ⟨b0, b8, f0, f1, f2⟩ := h
  obtain ⟨f, rfl⟩ := Int.eq_ofNat_of_zero_le f0
  obtain ⟨x, rfl⟩ := Int.eq_ofNat_of_zero_le h0
  obtain ⟨b, rfl⟩ := Int.eq_ofNat_of_zero_le b0
  have : b = 0 ∨ b = 1 ∨ b = 2 ∨ b = 3 ∨ b = 4 ∨ b = 5 ∨ b = 6 ∨ b = 7 ∨ b = 8 := by omega
  unfold Cov up
  rcases this with rfl | rfl | rfl | rfl | rfl | rfl | rfl | rfl | rfl <;> simp [sz] at f2 ⊢ <;> omega
theorem eid_inj {x y : Ent} (hx : EP x) (hy : EP y) (h : eid x = eid y) : ecmp x y = 0 := by
  obtain ⟨⟨b0, b8, f0, f1, f2⟩, _⟩ := hx
  obtain ⟨⟨c0, c8, g0, g1, g2⟩, _⟩ := hy
  have hd := up_depth (by omega) (by omega) (by omega) (by omega) h
  rw [eq_iff]
  obtain ⟨f, b, v⟩ := x
  obtain ⟨g, c, u⟩ := y
  dsimp only at *
  obtain ⟨f, rfl⟩ := Int.eq_ofNat_of_zero_le f0
  obtain ⟨g, rfl⟩ := Int.eq_ofNat_of_zero_le g0
  obtain ⟨b, rfl⟩ := Int.eq_ofNat_of_zero_le b0
  obtain ⟨c, rfl⟩ := Int.eq_ofNat_of_zero_le c0
  have hbc : b = c := by simpa using hd
  subst hbc
  have : b = 0 ∨ b = 1 ∨ b = 2 ∨ b = 3 ∨ b = 4 ∨ b = 5 ∨ b = 6 ∨ b = 7 ∨ b = 8 := by omega
  unfold eid up at h
  dsimp only at h
  rcases this with rfl | rfl | rfl | rfl | rfl | rfl | rfl | rfl | rfl <;> simp [sz] at f2 g2 h ⊢ <;> omega
/-- What is said last on the way to a. -/
def fl (va : Nat → Int) (a : Nat) : Nat → Int
  | 0 => 0
  | k + 1 => if va (up a k) ≠ 0 then va (up a k) else fl va a k
theorem fl_stop {va : Nat → Int} {a k : Nat} (h : ∀ j, k ≤ j → j ≤ 8 → va (up a j) = 0) : ∀ d, k + d ≤ 9 → fl va a (k + d) = fl va a k
  | 0, _ => rfl
  | d + 1, hd => by
    show (if va (up a (k + d)) ≠ 0 then _ else _) = _
    rw [if_neg (by rw [h (k + d) (by omega) (by omega)]; simp)]
    exact fl_stop h d (by omega)
theorem fl_at {va : Nat → Int} {a k : Nat} (hk : k ≤ 8) (h0 : va (up a k) ≠ 0) (h : ∀ j, k < j → j ≤ 8 → va (up a j) = 0) : fl va a 9 = va (up a k) := by
  have := fl_stop (va := va) (a := a) (k := k + 1) (fun j h1 h2 => h j (by omega) h2) (8 - k) (by omega)
  rw [show k + 1 + (8 - k) = 9 by omega] at this
  rw [this]
  show (if va (up a k) ≠ 0 then _ else _) = _
  rw [if_pos h0]
theorem fl_none {va : Nat → Int} {a : Nat} (h : ∀ j, j ≤ 8 → va (up a j) = 0) : fl va a 9 = 0 := by
  have := fl_stop (va := va) (a := a) (k := 0) (fun j _ h2 => h j h2) 9 (by omega)
  rw [Nat.zero_add] at this; exact this
def upd (va : Nat → Int) (i : Nat) (v : Int) : Nat → Int := fun j => if j = i then v else va j
def vaL (T : List Ent) : Nat → (Nat → Int)
  | 0 => fun _ => 0
  | k + 1 => upd (vaL T k) (eid (T.getD k zE)) (T.getD k zE).2.2
theorem vaL_s {T : List Ent} {k : Nat} {x : Ent} (hx : T[k]? = some x) : vaL T (k + 1) = upd (vaL T k) (eid x) x.2.2 := by
  show upd _ _ _ = _; rw [getD_of hx]
theorem vaL_no {T : List Ent} {i : Nat} : ∀ k, k ≤ T.length → (∀ j x, j < k → T[j]? = some x → eid x ≠ i) → vaL T k i = 0
  | 0, _, _ => rfl
  | k + 1, hk, h => by
    obtain ⟨x, hx⟩ := get_lt (L := T) (k := k) (by omega)
    rw [vaL_s hx]; unfold upd
    rw [if_neg (fun e => h k x (by omega) hx e.symm)]
    exact vaL_no k (by omega) (fun j y hj hy => h j y (by omega) hy)
theorem srt_ne {T : List Ent} (h : Srt T) {i j : Nat} {x y : Ent} (hi : T[i]? = some x) (hj : T[j]? = some y) (hij : i ≠ j) : ecmp x y ≠ 0 := by
  obtain ⟨h1, rfl⟩ := List.getElem?_eq_some_iff.1 hi
  obtain ⟨h2, rfl⟩ := List.getElem?_eq_some_iff.1 hj
  rcases Nat.lt_or_gt_of_ne hij with g | g
  · exact (List.pairwise_iff_getElem.1 h i j h1 h2 g).ne
  · intro e; exact (List.pairwise_iff_getElem.1 h j i h2 h1 g).ne (eq_symm.1 e)
theorem vaL_at {T : List Ent} (hT : TOk T) {i : Nat} {x : Ent} (hx : T[i]? = some x) : ∀ k, k ≤ T.length → i < k → vaL T k (eid x) = x.2.2
  | 0, _, h => by omega
  | k + 1, hk, hi => by
    obtain ⟨y, hy⟩ := get_lt (L := T) (k := k) (by omega)
    rw [vaL_s hy]; unfold upd
    by_cases e : i = k
    · subst e; rw [hx] at hy; injection hy with hy; subst hy; rw [if_pos rfl]
    · have := srt_ne (tok_srt hT) hx hy e
      rw [if_neg (fun g => this (eid_inj (tok_ep hT (List.mem_of_getElem? hx)) (tok_ep hT (List.mem_of_getElem? hy)) g))]
      exact vaL_at hT hx k (by omega) (by omega)
def va (T : List Ent) : Nat → Int := vaL T T.length
/-- By whom one goes to a. -/
def fnd (T : List Ent) (a : Nat) : Int := fl (va T) a 9
def covE (a : Nat) (x : Ent) : Prop := Cov x.1 x.2.1 (a : Int)
instance (a : Nat) (x : Ent) : Decidable (covE a x) := by unfold covE; infer_instance
theorem cov_eid {a : Nat} (ha : a < 256) {x : Ent} (hx : EP x) : covE a x ↔ up a x.2.1.toNat = eid x := by
  have := rok_cov (x := (a : Int)) hx.1 (by omega) (by omega)
  simpa [covE, eid] using this
theorem fnd_none {T : List Ent} (hT : TOk T) {a : Nat} (ha : a < 256) (h : ∀ x ∈ T, ¬ covE a x) : fnd T a = 0 := by
  refine fl_none fun j hj => vaL_no _ (Nat.le_refl _) fun i x _ hx e => ?_
  have hE := tok_ep hT (List.mem_of_getElem? hx)
  obtain ⟨⟨b0, b8, f0, f1, _⟩, _⟩ := id hE
  have hd : x.2.1.toNat = j := up_depth (by omega) ha (by omega) hj e
  exact h x (List.mem_of_getElem? hx) ((cov_eid ha hE).2 (by rw [hd]; exact e.symm))
theorem fnd_best {T : List Ent} (hT : TOk T) {a : Nat} (ha : a < 256) {x : Ent} (hx : x ∈ T) (hc : covE a x) (h : ∀ y ∈ T, covE a y → y.2.1 ≤ x.2.1) : fnd T a = x.2.2 := by
  have hE := tok_ep hT hx
  obtain ⟨⟨b0, b8, f0, f1, _⟩, v1, v9⟩ := id hE
  have he := (cov_eid ha hE).1 hc
  obtain ⟨i, hi, ex⟩ := List.getElem_of_mem hx
  have hxi : T[i]? = some x := by rw [List.getElem?_eq_getElem hi, ex]
  have hv : va T (up a x.2.1.toNat) = x.2.2 := by rw [he]; exact vaL_at hT hxi _ (Nat.le_refl _) hi
  unfold fnd
  rw [fl_at (va := va T) (k := x.2.1.toNat) (by omega) (by rw [hv]; omega) (fun j h1 h2 => vaL_no _ (Nat.le_refl _) fun q y _ hy e => by
    have hF := tok_ep hT (List.mem_of_getElem? hy)
    obtain ⟨⟨c0, c8, g0, g1, _⟩, _⟩ := id hF
    have hd : y.2.1.toNat = j := up_depth (by omega) ha (by omega) h2 e
    have := h y (List.mem_of_getElem? hy) ((cov_eid ha hF).2 (by rw [hd]; exact e.symm))
    omega)]
  exact hv
end Go.Proofs.Ytbhenfegklgkoaa
