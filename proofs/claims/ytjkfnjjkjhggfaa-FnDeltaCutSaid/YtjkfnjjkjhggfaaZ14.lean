/- The best of routes: rows of routes, and plain facts on the first of the best. Rows whose elements hold slices, the row itself from one block on, what it holds from another. Routes drawn in a row; the best of routes by the model. -/
import Derived.Test.YtjkfnjjkjhggfaaZ4
import Derived.Test.YtjkfnjjkjhggfaaZ13
import Derived.Test.YtjkfnjjkjhggfaaZ11
set_option linter.unusedSimpArgs false
set_option linter.unusedVariables false
namespace Go.Proofs.Ytjkfnjjkjhggfaa
open Go.RowKit

/-- A route: range, liking, path, marks. -/
abbrev Rt := Int × Int × Int × List Int × List Int
structure RtD where
  f : Int
  b : Int
  lk : Int
  u : Value
  v : Value
def encRt (d : RtD) : List Value := [.int .i64 d.f, .int .i64 d.b, d.u, .int .i64 d.lk, d.v]
theorem ints_one {w : World} {u : Value} {P : List Int} (h : Ints w u P) : u.oneCell' = true := by
  obtain ⟨ao, c, e, -⟩ := h.ex; rw [e]; rfl
def shRt : Sh RtD Rt where
  sz := 5
  enc := encRt
  len _ := rfl
  pos := by decide
  subs d := [d.u, d.v]
  rd w d s := (d.f = s.1 ∧ d.b = s.2.1 ∧ d.lk = s.2.2.1) ∧ Ints w d.u s.2.2.2.1 ∧ Ints w d.v s.2.2.2.2
  keep hg hs h := ⟨h.1, Rows.far h.2.1 hg (hs _ (by simp)), Rows.far h.2.2 hg (hs _ (by simp))⟩
  one h u hu := by
    simp [encRt] at hu
    rcases hu with rfl | rfl | rfl | rfl | rfl
    · rfl
    · rfl
    · exact ints_one h.2.1
    · rfl
    · exact ints_one h.2.2
/-- A slice of routes that reads as the list L. -/
abbrev Rts (w : World) (v : Value) (L : List Rt) : Prop := GLs shRt w v L
/-- A route of it: its cells, its path and marks. -/
theorem Rts.at {w : World} {b off n cap : Nat} {L : List Rt} (h : Rts w (.slice (some ⟨b, off, none⟩) n cap) L) {k : Nat} {f c lk : Int} {P M : List Int} (hk : L[k]? = some (f, c, lk, P, M)) :
    ∃ a1 m1 c1 a2 m2 c2, w.cell? ⟨b, off + k * 5, none⟩ = some (.int .i64 f) ∧ w.cell? ⟨b, off + k * 5 + 1, none⟩ = some (.int .i64 c) ∧ w.cell? ⟨b, off + k * 5 + 2, none⟩ = some (.slice a1 m1 c1) ∧ w.cell? ⟨b, off + k * 5 + 3, none⟩ = some (.int .i64 lk) ∧ w.cell? ⟨b, off + k * 5 + 4, none⟩ = some (.slice a2 m2 c2) ∧ Ints w (.slice a1 m1 c1) P ∧ Ints w (.slice a2 m2 c2) M := by
  obtain ⟨d, ⟨⟨e1, e2, e3⟩, h1, h2⟩, hc⟩ := GLs.at h hk
  obtain ⟨df, db, dl, du, dv⟩ := d
  dsimp only at e1 e2 e3 h1 h2
  subst e1; subst e2; subst e3
  obtain ⟨a1, m1, c1, rfl, _⟩ := Ints.sl h1
  obtain ⟨a2, m2, c2, rfl, _⟩ := Ints.sl h2
  exact ⟨a1, m1, c1, a2, m2, c2, hc 0 _ rfl, hc 1 _ rfl, hc 2 _ rfl, hc 3 _ rfl, hc 4 _ rfl, h1, h2⟩

def rtS (s t : Rt) : Int := rts s.1 s.2.1 s.2.2.1 s.2.2.2.1 s.2.2.2.2 t.1 t.2.1 t.2.2.1 t.2.2.2.1 t.2.2.2.2
def ROkS (s : Rt) : Prop := RtOk s.1 s.2.1 s.2.2.2.1 s.2.2.1 s.2.2.2.2
instance (s : Rt) : Decidable (ROkS s) := by unfold ROkS; infer_instance
theorem rtS_neg (s t : Rt) : rtS t s = - rtS s t := rts_neg ..
theorem rtS_bd (s t : Rt) : -1 ≤ rtS s t ∧ rtS s t ≤ 1 := rts_bd ..
theorem rtS_trans {s t u : Rt} (h1 : rtS s t < 0) (h2 : rtS t u < 0) : rtS s u < 0 := by
  have a := rtS_bd s t
  have b := rtS_bd t u
  have := rts_trans (show rtS s t = -1 by omega) (show rtS t u = -1 by omega)
  show rtS s u < 0
  have e : rtS s u = -1 := this
  omega
theorem rtS_0 {s t : Rt} : rtS s t = 0 ↔ s = t := by
  obtain ⟨f, b, lk, P, M⟩ := s
  obtain ⟨g, c, l2, P2, M2⟩ := t
  refine (rts_same ..).trans ?_
  unfold SameR
  simp only [Prod.mk.injEq]
  constructor
  · rintro ⟨⟨h1, h2⟩, h3, h4, h5⟩; exact ⟨h1, h2, h4, h3, h5⟩
  · rintro ⟨h1, h2, h4, h3, h5⟩; exact ⟨⟨h1, h2⟩, h3, h4, h5⟩
theorem rtS_self (s : Rt) : rtS s s = 0 := rtS_0.2 rfl
def rt0 : Rt := (0, 0, 0, [], [])
def rat (L : List Rt) (i : Nat) : Rt := L.getD i rt0
theorem rat_of {L : List Rt} {k : Nat} {x : Rt} (h : L[k]? = some x) : rat L k = x := by simp [rat, List.getD, h]
/-- The place of the first of the best among the first k + 1. -/
def bst (L : List Rt) : Nat → Nat
  | 0 => 0
  | k + 1 => if rtS (rat L (k + 1)) (rat L (bst L k)) < 0 then k + 1 else bst L k
def lss (L : List Rt) (a b : Nat) : Prop := rtS (rat L a) (rat L b) < 0 ∨ rtS (rat L a) (rat L b) = 0 ∧ a < b
instance (L : List Rt) (a b : Nat) : Decidable (lss L a b) := by unfold lss; infer_instance
theorem lss_trans {L : List Rt} {a b c : Nat} (h1 : lss L a b) (h2 : lss L b c) : lss L a c := by
  unfold lss at *
  rcases h1 with h1 | ⟨h1, k1⟩
  · rcases h2 with h2 | ⟨h2, k2⟩
    · exact Or.inl (rtS_trans h1 h2)
    · rw [rtS_0.1 h2] at h1; exact Or.inl h1
  · rw [rtS_0] at h1
    rw [h1]
    rcases h2 with h2 | ⟨h2, k2⟩
    · exact Or.inl h2
    · exact Or.inr ⟨h2, by omega⟩
theorem lss_irr {L : List Rt} {a : Nat} (h : lss L a a) : False := by
  unfold lss at h; rw [rtS_self] at h; omega
theorem lss_tot {L : List Rt} {a b : Nat} (h : a ≠ b) : lss L a b ∨ lss L b a := by
  unfold lss
  have := rtS_neg (rat L a) (rat L b)
  omega
theorem bst_le (L : List Rt) : ∀ k, bst L k ≤ k
  | 0 => Nat.le_refl _
  | k + 1 => by
    unfold bst; split
    · exact Nat.le_refl _
    · exact Nat.le_succ_of_le (bst_le L k)
theorem bst_min (L : List Rt) : ∀ (k i : Nat), i ≤ k → ¬ lss L i (bst L k)
  | 0, i, hi, h => by
    have : i = 0 := by omega
    subst this; exact lss_irr h
  | k + 1, i, hi, h => by
    unfold bst at h
    split at h
    · rename_i hlt
      by_cases hik : i = k + 1
      · subst hik; exact lss_irr h
      · exact bst_min L k i (by omega) (lss_trans h (Or.inl hlt))
    · rename_i hge
      by_cases hik : i = k + 1
      · subst hik
        have := bst_le L k
        unfold lss at h; omega
      · exact bst_min L k i (by omega) h
theorem bst_cong {L K : List Rt} : ∀ (k : Nat), (∀ i, i ≤ k → rat L i = rat K i) → bst L k = bst K k
  | 0, _ => rfl
  | k + 1, h => by
    have ih := bst_cong (L := L) (K := K) k (fun i hi => h i (by omega))
    have hb := bst_le K k
    simp only [bst, ih, h (k + 1) (Nat.le_refl _), h (bst K k) (by omega)]
/-- The place of the best route, or -1. -/
def bestOf (L : List Rt) : Int := if (∀ s ∈ L, ROkS s) ∧ L ≠ [] then (bst L (L.length - 1) : Int) else -1
theorem best_yes {L : List Rt} (h : ∀ s ∈ L, ROkS s) (hn : 0 < L.length) : bestOf L = (bst L (L.length - 1) : Int) := if_pos ⟨h, by rintro rfl; simp at hn⟩
theorem best_nil : bestOf [] = -1 := if_neg (by simp)
theorem best_no {L : List Rt} (h : ¬ ∀ s ∈ L, ROkS s) : bestOf L = -1 := if_neg (fun g => h g.1)
theorem best_ge {L : List Rt} (h : 0 ≤ bestOf L) : (∀ s ∈ L, ROkS s) ∧ 0 < L.length ∧ bestOf L = (bst L (L.length - 1) : Int) ∧ bst L (L.length - 1) < L.length := by
  unfold bestOf at h ⊢
  split at h
  · rename_i g
    have : 0 < L.length := List.length_pos_iff.2 g.2
    have := bst_le L (L.length - 1)
    rw [if_pos g]
    exact ⟨g.1, by omega, rfl, by omega⟩
  · omega
theorem best_bd (L : List Rt) : -1 ≤ bestOf L ∧ bestOf L < (L.length : Int) ∨ L = [] ∧ bestOf L = -1 := by
  by_cases h : 0 ≤ bestOf L
  · obtain ⟨_, _, e, h2⟩ := best_ge h
    left; omega
  · by_cases hL : L = []
    · subst hL; exact Or.inr ⟨rfl, best_nil⟩
    · have : 0 < L.length := List.length_pos_iff.2 hL
      unfold bestOf at h ⊢
      split at h
      · omega
      · rename_i g; rw [if_neg g]; left; omega
theorem rat_append {L K : List Rt} {i : Nat} (h : i < L.length) : rat (L ++ K) i = rat L i := by
  unfold rat; rw [List.getD_eq_getElem?_getD, List.getD_eq_getElem?_getD, List.getElem?_append_left h]
theorem rat_snoc {L : List Rt} {x : Rt} : rat (L ++ [x]) L.length = x := by
  unfold rat; rw [List.getD_eq_getElem?_getD, List.getElem?_append_right (Nat.le_refl _)]; simp
theorem best_snoc {L : List Rt} {x : Rt} (h : 0 ≤ bestOf L) (hx : ROkS x) : bestOf (L ++ [x]) = if rtS x (rat L (bst L (L.length - 1))) < 0 then (L.length : Int) else (bst L (L.length - 1) : Int) := by
  obtain ⟨h1, h2, h3, h4⟩ := best_ge h
  rw [best_yes (fun s hs => by rcases List.mem_append.1 hs with hs | hs; exact h1 s hs; rw [List.mem_singleton.1 hs]; exact hx) (by simp)]
  obtain ⟨n, hn⟩ : ∃ n, L.length = n + 1 := ⟨L.length - 1, by omega⟩
  have e : (L ++ [x]).length - 1 = n + 1 := by simp [hn]
  have hc : bst (L ++ [x]) n = bst L n := bst_cong n (fun i hi => rat_append (by omega))
  have hb := bst_le L n
  rw [e, bst, hc, ← hn, rat_snoc, rat_append (by omega), show L.length - 1 = n by omega]
  split <;> simp
theorem rat_rev {L : List Rt} {i : Nat} (h : i < L.length) : rat L.reverse i = rat L (L.length - 1 - i) := by
  unfold rat; rw [List.getD_eq_getElem?_getD, List.getD_eq_getElem?_getD, List.getElem?_reverse h]
theorem best_rev {L : List Rt} (h : 0 ≤ bestOf L) : 0 ≤ bestOf L.reverse ∧ rat L.reverse (bst L.reverse (L.reverse.length - 1)) = rat L (bst L (L.length - 1)) := by
  obtain ⟨h1, h2, h3, h4⟩ := best_ge h
  have g : bestOf L.reverse = _ := best_yes (fun s hs => h1 s (List.mem_reverse.1 hs)) (by simpa using h2)
  refine ⟨by rw [g]; omega, ?_⟩
  have hb := bst_le L.reverse (L.reverse.length - 1)
  simp only [List.length_reverse] at hb ⊢
  obtain ⟨m, hm⟩ : ∃ m, bst L.reverse (L.length - 1) = m := ⟨_, rfl⟩
  obtain ⟨k, hk⟩ : ∃ k, bst L (L.length - 1) = k := ⟨_, rfl⟩
  have m1 := bst_min L (L.length - 1) (L.length - 1 - m) (by omega)
  have m2 := bst_min L.reverse (L.length - 1) (L.length - 1 - k) (by omega)
  rw [hk] at m1 h4
  rw [hm] at m2 hb
  rw [hm, hk, rat_rev (by omega)]
  unfold lss at m1 m2
  rw [rat_rev (by omega), rat_rev (by omega), show L.length - 1 - (L.length - 1 - k) = k by omega] at m2
  have := rtS_neg (rat L k) (rat L (L.length - 1 - m))
  exact (rtS_0.1 (by omega))
end Go.Proofs.Ytjkfnjjkjhggfaa
set_option linter.unusedSimpArgs false
set_option linter.unusedVariables false
namespace Go.Proofs.Ytjkfnjjkjhggfaa
open Go.RowKit

section
variable {δ β : Type} {S : Sh δ β} {E : TypeId} {w w' : World} {R B : Nat} {v : Value} {L : List β}
/-- One's own row from block R on, what it holds from block B on. -/
def GO2 (S : Sh δ β) (E : TypeId) (w : World) (R B : Nat) (v : Value) (L : List β) : Prop := ∃ ds, Own E w R v S.sz S.enc ds ∧ GRel S w B w.heap.size v ds L
theorem GO2.gown (h : GO2 S E w R B v L) (hB : B ≤ R) : GOwn S E w B v L := by
  obtain ⟨ds, h1, h2⟩ := h; exact ⟨ds, h1.base hB, h2⟩
theorem GO2.below (h : GO2 S E w R B v L) (K : Below w.heap.size w w') : GO2 S E w' R B v L := by
  obtain ⟨ds, h1, h2⟩ := h; exact ⟨ds, h1.below K, (h2.below K).mono (Nat.le_refl _) K.size⟩
theorem GO2.kp {r : Nat} (h : GO2 S E w R B v L) (K : Kp r w w') (hr : r < B) (hB : B ≤ R) : GO2 S E w' R B v L := by
  obtain ⟨ds, h1, h2⟩ := h; exact ⟨ds, h1.kp K (by omega), (h2.kp K hr).mono (Nat.le_refl _) K.size⟩
theorem GO2.alloc (h : GO2 S E w R B v L) (o : Obj) : GO2 S E (w.alloc o) R B v L := h.below ((Below.refl _ _).alloc (Nat.le_refl _) _)
theorem GO2.drew (h : GO2 S E w R B v L) : GO2 S E w.drew R B v L := h.below (Below.refl _ _).drew
theorem GO2.made (E : TypeId) (w : World) (R B : Nat) (hR : R ≤ w.heap.size) : GO2 S E (w.alloc (.cells #[] E)) R B (.slice (some ⟨w.heap.size, 0, none⟩) 0 0) [] := ⟨[], Own.made _ _ _ _ _ hR, rfl, fun k s h => by simp at h⟩
theorem GO2.nil (E : TypeId) (w : World) (R B : Nat) : GO2 S E w R B (.slice none 0 0) [] := ⟨[], Own.nil _ _ _ _ _, rfl, fun k s h => by simp at h⟩
theorem GO2.sl (h : GO2 S E w R B v L) : ∃ ao cap, v = .slice ao L.length cap := by
  obtain ⟨ds, h1, h2⟩ := h
  obtain ⟨ao, cap, e⟩ := h1.sl
  exact ⟨ao, cap, by rw [← h2.1]; exact e⟩
theorem GO2.lt (h : GO2 S E w R B v L) : ∀ g, v.ownBlock = some g → g < w.heap.size := by
  obtain ⟨ds, h1, h2⟩ := h; exact h1.lt
theorem GO2.ge (h : GO2 S E w R B v L) : ∀ g, v.ownBlock = some g → R ≤ g := by
  obtain ⟨ds, h1, h2⟩ := h; exact h1.ge
theorem GO2.gls (h : GO2 S E w R B v L) : GLs S w v L := by
  obtain ⟨ds, h1, h2⟩ := h
  exact ⟨ds, h1.rows S.len, h2.1, fun k s hk => by obtain ⟨d, a, b, -⟩ := h2.2 k s hk; exact ⟨d, a, b⟩⟩
end
theorem GOwn.go2 {δ β : Type} {S : Sh δ β} {E : TypeId} {w : World} {B : Nat} {v : Value} {L : List β} (h : GOwn S E w B v L) : GO2 S E w B B v L := h
/-- A route of a row, and where its path and marks lie. -/
theorem GOwn.rt {E : TypeId} {w : World} {B b off n cap : Nat} {L : List Rt} (h : GOwn shRt E w B (.slice (some ⟨b, off, none⟩) n cap) L) {k : Nat} {f c lk : Int} {P M : List Int} (hk : L[k]? = some (f, c, lk, P, M)) :
    ∃ a1 m1 c1 a2 m2 c2, (w.cell? ⟨b, off + k * 5, none⟩ = some (.int .i64 f) ∧ w.cell? ⟨b, off + k * 5 + 1, none⟩ = some (.int .i64 c) ∧ w.cell? ⟨b, off + k * 5 + 2, none⟩ = some (.slice a1 m1 c1) ∧ w.cell? ⟨b, off + k * 5 + 3, none⟩ = some (.int .i64 lk) ∧ w.cell? ⟨b, off + k * 5 + 4, none⟩ = some (.slice a2 m2 c2)) ∧ shRt.rd w ⟨f, c, lk, .slice a1 m1 c1, .slice a2 m2 c2⟩ (f, c, lk, P, M) ∧ ∀ u ∈ shRt.subs ⟨f, c, lk, .slice a1 m1 c1, .slice a2 m2 c2⟩, ∀ g, u.ownBlock = some g → B ≤ g ∧ g < w.heap.size := by
  obtain ⟨ds, h1, h2⟩ := h
  obtain ⟨d, e, hr, hs⟩ := h2.2 k _ hk
  have hc := fun j u hj => Rows.get (h1.rows shRt.len) e (j := j) (u := u) hj
  obtain ⟨df, db, dl, du, dv⟩ := d
  obtain ⟨⟨e1, e2, e3⟩, i1, i2⟩ := hr
  dsimp only at e1 e2 e3 i1 i2
  subst e1; subst e2; subst e3
  obtain ⟨a1, m1, c1, rfl, _⟩ := Ints.sl i1
  obtain ⟨a2, m2, c2, rfl, _⟩ := Ints.sl i2
  exact ⟨a1, m1, c1, a2, m2, c2, ⟨hc 0 _ rfl, hc 1 _ rfl, hc 2 _ rfl, hc 3 _ rfl, hc 4 _ rfl⟩, ⟨⟨rfl, rfl, rfl⟩, i1, i2⟩, fun u hu => (hs u hu).2⟩
end Go.Proofs.Ytjkfnjjkjhggfaa
set_option linter.unusedSimpArgs false
set_option linter.unusedVariables false
namespace Go.Proofs.Ytjkfnjjkjhggfaa
open Go.RowKit

theorem infoRt : (Try.prog.info? 64).map (fun i => (i.zero, i.size, i.bytes)) = some (some (.agg #[.int .i64 0, .int .i64 0, .slice none 0 0, .int .i64 0, .slice none 0 0]), 5, 72) := by kernel_rfl
/-- What a drawn route is at most. -/
def SmRt (s : Rt) : Prop := SmR s.1 s.2.1 ∧ -10 ≤ s.2.2.1 ∧ s.2.2.1 ≤ 20 ∧ L4 s.2.2.2.1 ∧ s.2.2.2.2.length ≤ 10
end Go.Proofs.Ytjkfnjjkjhggfaa
