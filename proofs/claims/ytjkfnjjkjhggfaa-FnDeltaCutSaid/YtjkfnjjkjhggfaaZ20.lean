/- Letters: a change cut in pieces of three; how a row of letters reads. append of a whole slice onto an owned row, at a step of a region that draws its order. append of any slice, nil or not, onto an owned row. -/
import Derived.Test.YtjkfnjjkjhggfaaZ19
import Derived.Test.YtjkfnjjkjhggfaaZ3
import Derived.Deep.RegionHeldLaw
import Derived.Deep.RegionLaw
import Derived.Deep.AppendLies
set_option linter.unusedSimpArgs false
set_option linter.unusedVariables false
namespace Go.Proofs.Ytjkfnjjkjhggfaa
open Go.RowKit

abbrev Ltr := List Rg × List Rt
structure LtD where
  u : Value
  v : Value
  rds : List RtD
def encLt (d : LtD) : List Value := [d.u, d.v]
/-- Routes read. -/
def RdsL (w : World) (rds : List RtD) (L : List Rt) : Prop := rds.length = L.length ∧ ∀ (k : Nat) (t : Rt), L[k]? = some t → ∃ r : RtD, rds[k]? = some r ∧ shRt.rd w r t
def shLt : Sh LtD Ltr where
  sz := 2
  enc := encLt
  len _ := rfl
  pos := by decide
  subs d := d.u :: d.v :: d.rds.flatMap shRt.subs
  rd w d s := Rows w d.u 2 encRg s.1 ∧ Rows w d.v 5 encRt d.rds ∧ RdsL w d.rds s.2
  keep hg hs h := ⟨Rows.far h.1 hg (hs _ (by simp)), Rows.far h.2.1 hg (hs _ (by simp)), h.2.2.1, fun k t hk => by
    obtain ⟨r, h1, h2⟩ := h.2.2.2 k t hk
    exact ⟨r, h1, shRt.keep hg (fun u hu => hs u (List.mem_cons_of_mem _ (List.mem_cons_of_mem _ (List.mem_flatMap.2 ⟨r, List.mem_of_getElem? h1, hu⟩)))) h2⟩⟩
  one h u hu := by
    simp [encLt] at hu
    rcases hu with rfl | rfl
    · obtain ⟨a, c, e, -⟩ := h.1.ex; rw [e]; rfl
    · obtain ⟨a, c, e, -⟩ := h.2.1.ex; rw [e]; rfl
abbrev Lts (w : World) (v : Value) (Ls : List Ltr) : Prop := GLs shLt w v Ls
theorem RdsL.rts {w : World} {v : Value} {rds : List RtD} {L : List Rt} (h : RdsL w rds L) (hr : Rows w v 5 encRt rds) : Rts w v L := ⟨rds, hr, h.1, h.2⟩
theorem RdsL.app {w : World} {rds rds2 : List RtD} {L L2 : List Rt} (h : RdsL w rds L) (h2 : RdsL w rds2 L2) : RdsL w (rds ++ rds2) (L ++ L2) := by
  refine ⟨by simp [h.1, h2.1], fun k t hk => ?_⟩
  by_cases hl : k < L.length
  · rw [List.getElem?_append_left hl] at hk
    obtain ⟨r, a, b⟩ := h.2 k t hk
    exact ⟨r, by rw [List.getElem?_append_left (by rw [h.1]; exact hl)]; exact a, b⟩
  · rw [List.getElem?_append_right (by omega)] at hk
    obtain ⟨r, a, b⟩ := h2.2 _ t hk
    exact ⟨r, by rw [List.getElem?_append_right (by rw [h.1]; omega), h.1]; exact a, b⟩
theorem RdsL.below {w w' : World} {rds : List RtD} {L : List Rt} (h : RdsL w rds L) (hb : Below w.heap.size w w') : RdsL w' rds L := ⟨h.1, fun k t hk => by
  obtain ⟨r, a, b⟩ := h.2 k t hk
  exact ⟨r, a, Sh.below b hb⟩⟩
/-- A letter of it: its two slices, and what they read as. -/
theorem Lts.at {w : World} {b off n cap : Nat} {Ls : List Ltr} (h : Lts w (.slice (some ⟨b, off, none⟩) n cap) Ls) {k : Nat} {D : List Rg} {L : List Rt} (hk : Ls[k]? = some (D, L)) :
    ∃ a1 c1 a2 c2 rds, w.cell? ⟨b, off + k * 2, none⟩ = some (.slice a1 D.length c1) ∧ w.cell? ⟨b, off + k * 2 + 1, none⟩ = some (.slice a2 L.length c2) ∧ Rows w (.slice a1 D.length c1) 2 encRg D ∧ Rows w (.slice a2 L.length c2) 5 encRt rds ∧ RdsL w rds L := by
  obtain ⟨⟨u, v, rds⟩, ⟨h1, h2, h3⟩, hc⟩ := GLs.at h hk
  dsimp only at h1 h2 h3
  obtain ⟨a1, c1, rfl, -⟩ := h1.ex
  obtain ⟨a2, c2, rfl, -⟩ := h2.ex
  rw [h3.1] at h2 hc
  exact ⟨a1, c1, a2, c2, rds, hc 0 _ rfl, hc 1 _ rfl, h1, h2, h3⟩
/-- From a to b. -/
def seg {α : Type} (X : List α) (a b : Nat) : List α := (X.take b).drop a
theorem seg_len {α : Type} (X : List α) (a b : Nat) : (seg X a b).length = min b X.length - a := by simp [seg]
theorem seg_app {α : Type} (X : List α) {a b c : Nat} (h1 : a ≤ b) (h2 : b ≤ c) : seg X a b ++ seg X b c = seg X a c := by
  unfold seg
  have e : X.take b = (X.take c).take b := by rw [List.take_take, Nat.min_eq_left h2]
  rw [e]
  generalize X.take c = Y
  have h3 : Y.drop a = (Y.take b ++ Y.drop b).drop a := by rw [List.take_append_drop]
  rw [h3]
  by_cases hb : b ≤ Y.length
  · rw [List.drop_append_of_le_length (by simp; omega)]
  · rw [List.take_of_length_le (by omega), List.drop_eq_nil_of_le (by omega : Y.length ≤ b)]
    simp
theorem seg_take {α : Type} (X : List α) (a : Nat) : seg X 0 a = X.take a := by simp [seg]
theorem seg_one {α : Type} (X : List α) {k : Nat} {x : α} (hx : X[k]? = some x) : seg X k (k + 1) = [x] := by
  have hk : k < X.length := (List.getElem?_eq_some_iff.1 hx).1
  have hl : (seg X k (k + 1)).length = 1 := by rw [seg_len]; omega
  obtain ⟨y, hy⟩ := List.length_eq_one_iff.1 hl
  have : (seg X k (k + 1))[0]? = some x := by
    unfold seg
    rw [List.getElem?_drop, List.getElem?_take, if_pos (by omega)]
    exact hx
  rw [hy] at this ⊢
  simpa using this
theorem seg_nil {α : Type} (X : List α) {a b : Nat} (h : b ≤ a ∨ X.length ≤ a) : seg X a b = [] := List.length_eq_zero_iff.1 (by rw [seg_len]; omega)
section
variable (D : List Rg) (L : List Rt)
/-- The items from a to b: ranges first, then routes. -/
def cut (a b : Nat) : Ltr := (seg D a b, seg L (a - D.length) (b - D.length))
def pcs : List Ltr := (List.range ((D.length + L.length + 2) / 3)).map fun i => cut D L (i * 3) (i * 3 + 3)
theorem pcs_len : (pcs D L).length = (D.length + L.length + 2) / 3 := by simp [pcs]
theorem pcs_at {i : Nat} (h : i < (D.length + L.length + 2) / 3) : (pcs D L)[i]? = some (cut D L (i * 3) (i * 3 + 3)) := by
  simp [pcs, h]
theorem cut_len (a b : Nat) : (cut D L a b).1.length + (cut D L a b).2.length = (min b D.length - a) + (min (b - D.length) L.length - (a - D.length)) := by
  simp only [cut, seg_len]
end
theorem seg_end {α : Type} (X : List α) {a b c : Nat} (hb : X.length ≤ b) (hc : X.length ≤ c) : seg X a b = seg X a c := by
  unfold seg; rw [List.take_of_length_le hb, List.take_of_length_le hc]
theorem cut_nil (D : List Rg) (L : List Rt) {a b : Nat} (h : b ≤ a) : cut D L a b = ([], []) := by
  unfold cut; rw [seg_nil D (.inl h), seg_nil L (.inl (by omega))]
theorem cut_drop (D : List Rg) (L : List Rt) {a k : Nat} {x : Rg} (ha : a ≤ k) (hx : D[k]? = some x) : cut D L a (k + 1) = ((cut D L a k).1 ++ [x], []) ∧ (cut D L a k).2 = [] := by
  have hk : k < D.length := (List.getElem?_eq_some_iff.1 hx).1
  unfold cut
  rw [← seg_app D ha (Nat.le_succ k), seg_one D hx, seg_nil L (a := a - D.length) (b := k + 1 - D.length) (.inl (by omega))]
  exact ⟨rfl, seg_nil L (.inl (by omega))⟩
theorem cut_tell (D : List Rg) (L : List Rt) {a k j : Nat} {x : Rt} (ha : a ≤ k) (hk : k = D.length + j) (hx : L[j]? = some x) : cut D L a (k + 1) = ((cut D L a k).1, (cut D L a k).2 ++ [x]) := by
  subst hk
  unfold cut
  rw [seg_end D (b := D.length + j + 1) (c := D.length + j) (by omega) (by omega)]
  by_cases h : a ≤ D.length
  · rw [show a - D.length = 0 by omega, show D.length + j + 1 - D.length = j + 1 by omega, show D.length + j - D.length = j by omega, ← seg_app L (Nat.zero_le j) (Nat.le_succ j), seg_one L hx]
  · rw [show D.length + j + 1 - D.length = j + 1 by omega, show D.length + j - D.length = j by omega, ← seg_app L (show a - D.length ≤ j by omega) (Nat.le_succ j), seg_one L hx]
end Go.Proofs.Ytjkfnjjkjhggfaa
set_option linter.unusedSimpArgs false
set_option linter.unusedVariables false
namespace Go.Proofs.Ytjkfnjjkjhggfaa
open Go Go.RowKit

theorem step_appsM {α : Type} {P : Program} {ops : Array Oper} {o : Oper} {a : Act} {w : World} {K : Act → World → Prop} {Q : Exit → Act → World → Prop} {F : Prop} (hw : Region.wanted o (yielded ops a.tmps) = true) (s x : Operand) (t : TypeId)
    (ho : o.op = .call { callee := .builtin .append, args := #[s, x], argTypes := #[t, t] })
    (E : TypeId) (z : Value) (sz bytes : Nat) (ht : P.underlying t = some (.slice E)) (hI : (P.info? E).map (fun i => (i.zero, i.size, i.bytes)) = some (some z, sz, bytes)) (hzs : z.cells.size = sz) (hsz : 0 < sz) (hby : bytes ≤ 1000)
    (B : Nat) (enc : α → List Value) (hen : ∀ x, (enc x).length = sz) (v : Value) (L : List α) (hs : a.eval s = v) (hown : Own E w B v sz enc L)
    (b off m c : Nat) (K2 : List α) (hone : ∀ x ∈ K2, ∀ u ∈ enc x, u.oneCell' = true) (hx : a.eval x = .slice (some ⟨b, off, none⟩) m c) (hK : Rows w (.slice (some ⟨b, off, none⟩) m c) sz enc K2)
    (hlen : L.length + m ≤ 1000000) (hB : B ≤ w.heap.size)
    (h : ∀ v' w', Own E w' B v' sz enc (L ++ K2) → w.grownBy w' v.ownBlock → Below B w w' → Frsh w v v' → K (a.put o.dst v') w') : if Region.wanted o (yielded ops a.tmps) = true then Oper.wp P o a w K Q else F := by
  rw [if_pos hw]
  obtain ⟨i, hi, hz, hsize, hbytes⟩ := info_parts hI
  have hKm : K2.length = m := by
    obtain ⟨ao, cap, e, _⟩ := hK.ex
    injection e with _ e; exact e.symm
  have hm : L.length + m ≤ maxLen := by unfold maxLen; omega
  have hb : (L.length + m) * bytes ≤ 140737488355328 := Nat.le_trans (Nat.mul_le_mul (show L.length + m ≤ 1000001 by omega) hby) (by omega)
  have hfl : (K2.flatMap enc).length = m * sz := by rw [flat_len hen, hKm]
  have hone' : ∀ u ∈ K2.flatMap enc, u.oneCell' = true := fun u hu => by
    obtain ⟨y, hy1, hy⟩ := List.mem_flatMap.1 hu
    exact hone y hy1 u hy
  obtain ⟨v', w', hr, h2, h3, h4⟩ := run_append_own (P := P) w B t o.type E i z sz bytes ht hi hz hsize hbytes hzs hsz v L.length (L.flatMap enc) hown ⟨b, off, none⟩ m c (K2.flatMap enc) hfl (rows_flat hK hen) hone' hm hb hB
  have hf := append_block0 (P := P) (w := w) B t o.type E i z sz bytes ht hi hz hsize hbytes v L.length (L.flatMap enc) hown ⟨b, off, none⟩ m c (K2.flatMap enc) hfl (rows_flat hK hen) hone' hm hb hr
  unfold Oper.wp execOp
  simp only [ho, resolve, invoke, builtin, Sem.run_bind, Sem.run_pure, Result.andThen_ok, List.map_toArray, List.map_cons, List.map_nil, hs, hx, hr]
  exact h v' w' (by unfold Own; rw [List.length_append, List.flatMap_append, hKm]; exact h2) h3 (own_grown hown h3 hB) hf
theorem step_apps {α : Type} {P : Program} {ops : Array Oper} {o : Oper} {a : Act} {w : World} {K : Act → World → Prop} {Q : Exit → Act → World → Prop} {F : Prop} (hw : Region.wanted o (yielded ops a.tmps) = true) (s x : Operand) (t : TypeId)
    (ho : o.op = .call { callee := .builtin .append, args := #[s, x], argTypes := #[t, t] })
    (E : TypeId) (z : Value) (sz bytes : Nat) (ht : P.underlying t = some (.slice E)) (hI : (P.info? E).map (fun i => (i.zero, i.size, i.bytes)) = some (some z, sz, bytes)) (hzs : z.cells.size = sz) (hsz : 0 < sz) (hby : bytes ≤ 1000)
    (B : Nat) (enc : α → List Value) (hen : ∀ x, (enc x).length = sz) (hone : ∀ x, ∀ u ∈ enc x, u.oneCell' = true) (v : Value) (L : List α) (hs : a.eval s = v) (hown : Own E w B v sz enc L)
    (b off m c : Nat) (K2 : List α) (hx : a.eval x = .slice (some ⟨b, off, none⟩) m c) (hK : Rows w (.slice (some ⟨b, off, none⟩) m c) sz enc K2)
    (hlen : L.length + m ≤ 1000000) (hB : B ≤ w.heap.size)
    (h : ∀ v' w', Own E w' B v' sz enc (L ++ K2) → w.grownBy w' v.ownBlock → Below B w w' → Frsh w v v' → K (a.put o.dst v') w') : if Region.wanted o (yielded ops a.tmps) = true then Oper.wp P o a w K Q else F := by
  rw [if_pos hw]
  obtain ⟨i, hi, hz, hsize, hbytes⟩ := info_parts hI
  have hKm : K2.length = m := by
    obtain ⟨ao, cap, e, _⟩ := hK.ex
    injection e with _ e; exact e.symm
  have hm : L.length + m ≤ maxLen := by unfold maxLen; omega
  have hb : (L.length + m) * bytes ≤ 140737488355328 := Nat.le_trans (Nat.mul_le_mul (show L.length + m ≤ 1000001 by omega) hby) (by omega)
  have hfl : (K2.flatMap enc).length = m * sz := by rw [flat_len hen, hKm]
  have hone' : ∀ u ∈ K2.flatMap enc, u.oneCell' = true := fun u hu => by
    obtain ⟨y, _, hy⟩ := List.mem_flatMap.1 hu
    exact hone y u hy
  obtain ⟨v', w', hr, h2, h3, h4⟩ := run_append_own (P := P) w B t o.type E i z sz bytes ht hi hz hsize hbytes hzs hsz v L.length (L.flatMap enc) hown ⟨b, off, none⟩ m c (K2.flatMap enc) hfl (rows_flat hK hen) hone' hm hb hB
  have hf := append_block0 (P := P) (w := w) B t o.type E i z sz bytes ht hi hz hsize hbytes v L.length (L.flatMap enc) hown ⟨b, off, none⟩ m c (K2.flatMap enc) hfl (rows_flat hK hen) hone' hm hb hr
  unfold Oper.wp execOp
  simp only [ho, resolve, invoke, builtin, Sem.run_bind, Sem.run_pure, Result.andThen_ok, List.map_toArray, List.map_cons, List.map_nil, hs, hx, hr]
  exact h v' w' (by unfold Own; rw [List.length_append, List.flatMap_append, hKm]; exact h2) h3 (own_grown hown h3 hB) hf
theorem step_app1 {α : Type} {P : Program} {ops : Array Oper} {o : Oper} {a : Act} {w : World} {K : Act → World → Prop} {Q : Exit → Act → World → Prop} {F : Prop} (hw : Region.wanted o (yielded ops a.tmps) = true) (s x : Operand) (t : TypeId)
    (ho : o.op = .call { callee := .builtin .append, args := #[s, x], argTypes := #[t, t] })
    (E : TypeId) (z : Value) (sz bytes : Nat) (ht : P.underlying t = some (.slice E)) (hI : (P.info? E).map (fun i => (i.zero, i.size, i.bytes)) = some (some z, sz, bytes)) (hzs : z.cells.size = sz) (hsz : 0 < sz) (hby : bytes ≤ 1000)
    (B : Nat) (enc : α → List Value) (v : Value) (L : List α) (hs : a.eval s = v) (hown : Own E w B v sz enc L) (y : α)
    (ad : Addr) (c : Nat) (hx : a.eval x = .slice (some ad) 1 c) (hl : (enc y).length = sz) (hnews : ∀ j u, (enc y)[j]? = some u → w.cell? (ad.add j) = some u) (h1 : ∀ u ∈ enc y, u.oneCell' = true)
    (hlen : L.length ≤ 1000000) (hB : B ≤ w.heap.size)
    (h : ∀ v' w', Own E w' B v' sz enc (L ++ [y]) → w.grownBy w' v.ownBlock → Below B w w' → Frsh w v v' → K (a.put o.dst v') w') : if Region.wanted o (yielded ops a.tmps) = true then Oper.wp P o a w K Q else F := by
  rw [if_pos hw]
  obtain ⟨i, hi, hz, hsize, hbytes⟩ := info_parts hI
  have hm : L.length + 1 ≤ maxLen := by unfold maxLen; omega
  have hb : (L.length + 1) * bytes ≤ 140737488355328 := Nat.le_trans (Nat.mul_le_mul (show L.length + 1 ≤ 1000001 by omega) hby) (by omega)
  obtain ⟨v', w', hr, h2, h3, h4⟩ := run_append_own (P := P) w B t o.type E i z sz bytes ht hi hz hsize hbytes hzs hsz v L.length (L.flatMap enc) hown ad 1 c (enc y) (by omega) hnews h1 hm hb hB
  have hf := append_block (P := P) (w := w) B t o.type E i z sz bytes ht hi hz hsize hbytes v L.length (L.flatMap enc) hown ad 1 c (enc y) (by omega) hnews h1 hm hb (by omega) hr
  unfold Oper.wp execOp
  simp only [ho, resolve, invoke, builtin, Sem.run_bind, Sem.run_pure, Result.andThen_ok, List.map_toArray, List.map_cons, List.map_nil, hs, hx, hr]
  exact h v' w' (by unfold Own; rw [List.length_append, List.flatMap_append]; simpa using h2) h3 (own_grown hown h3 hB) hf
/-- A guarded operation that is wanted, in a region that goes in order. -/
theorem wpListG {P : Program} {ops : Array Oper} {rest : List Oper} {o : Oper} {a : Act} {w : World} {Q : Exit → Act → World → Prop} (hw : Region.wanted o (yielded ops a.tmps) = true)
    (h : if Region.wanted o (yielded ops a.tmps) = true then Oper.wp P o a w (wpList P ops Q rest) Q else True) : wpList P ops Q (o :: rest) a w := by
  rw [if_pos hw] at h
  unfold wpList
  rw [if_pos hw]
  exact Or.inl h
end Go.Proofs.Ytjkfnjjkjhggfaa
set_option linter.unusedSimpArgs false
set_option linter.unusedVariables false
namespace Go.Proofs.Ytjkfnjjkjhggfaa
open Go Go.RowKit

theorem run_app_none {P : Program} (w : World) (t ty E : TypeId) (i : TypeInfo) (ht : P.underlying t = some (.slice E)) (hi : P.info? E = some i) (base size n c : Nat) (v : Value) (xs : List Value) (h : w.ownsRow base E size v n xs) :
    (Builtin.append_ #[t, t] ty #[v, .slice none 0 c]).run P w = .ok v w := by
  obtain ⟨h1, ⟨rfl, h2⟩ | ⟨g, cap, cur, rfl, _, _, h4, _⟩⟩ := h
  · simp [Builtin.append_, run_underlying ht, sizeOf, typeInfo, hi, Builtin.lenOf, Builtin.firstCells]
  · simp [Builtin.append_, run_underlying ht, sizeOf, typeInfo, hi, Builtin.lenOf, Builtin.firstCells, storeCells, h4]
theorem run_appsZ {α : Type} {P : Program} {w : World} (t ty E : TypeId) (z : Value) (sz bytes : Nat) (ht : P.underlying t = some (.slice E)) (hI : (P.info? E).map (fun i => (i.zero, i.size, i.bytes)) = some (some z, sz, bytes)) (hzs : z.cells.size = sz) (hsz : 0 < sz) (hby : bytes ≤ 1000)
    (B : Nat) (enc : α → List Value) (hen : ∀ x, (enc x).length = sz) (v : Value) (L : List α) (hown : Own E w B v sz enc L)
    (xv : Value) (K : List α) (hone : ∀ x ∈ K, ∀ u ∈ enc x, u.oneCell' = true) (hK : Rows w xv sz enc K) (hlen : L.length + K.length ≤ 4000000) (hB : B ≤ w.heap.size) :
    ∃ v' w', (Builtin.append_ #[t, t] ty #[v, xv]).run P w = .ok v' w' ∧ Own E w' B v' sz enc (L ++ K) ∧ w.grownBy w' v.ownBlock ∧ Below B w w' ∧ Frsh w v v' := by
  obtain ⟨i, hi, hz, hsize, hbytes⟩ := info_parts hI
  obtain ⟨ao, cap, rfl, h1, h2, h3⟩ := hK.ex
  have hm : L.length + K.length ≤ maxLen := by unfold maxLen; omega
  have hb : (L.length + K.length) * bytes ≤ 140737488355328 := Nat.le_trans (Nat.mul_le_mul (show L.length + K.length ≤ 4000001 by omega) hby) (by omega)
  cases ao with
  | none =>
    have hk : K = [] := by
      cases K with
      | nil => rfl
      | cons y K => obtain ⟨b, off, e, _⟩ := h3 0 y rfl; cases e
    subst hk
    refine ⟨v, w, run_app_none w t ty E i ht hi B sz L.length cap v _ hown, by simpa using hown, ⟨rfl, rfl, rfl, Nat.le_refl _, fun _ _ _ => rfl⟩, Below.refl _ _, Or.inl rfl⟩
  | some ad =>
    have hfl : (K.flatMap enc).length = K.length * sz := flat_len hen K
    have hone' : ∀ u ∈ K.flatMap enc, u.oneCell' = true := fun u hu => by
      obtain ⟨y, hy1, hy⟩ := List.mem_flatMap.1 hu
      exact hone y hy1 u hy
    have hnews : ∀ j u, (K.flatMap enc)[j]? = some u → w.cell? (ad.add j) = some u := fun j u hj => by
      obtain ⟨k, x, q, hk, hq, e⟩ := flat_at hen K j u hj
      obtain ⟨b, off, e1, hc⟩ := h3 k x hk
      injection e1 with e1
      subst e1
      rw [addr_add', e, ← Nat.add_assoc]
      exact hc q u hq
    obtain ⟨v', w', hr, k2, k3, k4⟩ := run_append_own (P := P) w B t ty E i z sz bytes ht hi hz hsize hbytes hzs hsz v L.length (L.flatMap enc) hown ad K.length cap (K.flatMap enc) hfl hnews hone' hm hb hB
    have hf := append_block0 (P := P) (w := w) B t ty E i z sz bytes ht hi hz hsize hbytes v L.length (L.flatMap enc) hown ad K.length cap (K.flatMap enc) hfl hnews hone' hm hb hr
    exact ⟨v', w', hr, by unfold Own; rw [List.length_append, List.flatMap_append]; exact k2, k3, own_grown hown k3 hB, hf⟩
theorem step_appsZ {α : Type} {P : Program} {ops : Array Oper} {o : Oper} {a : Act} {w : World} {K : Act → World → Prop} {Q : Exit → Act → World → Prop} {F : Prop} (hw : Region.wanted o (yielded ops a.tmps) = true) (s x : Operand) (t : TypeId)
    (ho : o.op = .call { callee := .builtin .append, args := #[s, x], argTypes := #[t, t] })
    (E : TypeId) (z : Value) (sz bytes : Nat) (ht : P.underlying t = some (.slice E)) (hI : (P.info? E).map (fun i => (i.zero, i.size, i.bytes)) = some (some z, sz, bytes)) (hzs : z.cells.size = sz) (hsz : 0 < sz) (hby : bytes ≤ 1000)
    (B : Nat) (enc : α → List Value) (hen : ∀ x, (enc x).length = sz) (v : Value) (L : List α) (hs : a.eval s = v) (hown : Own E w B v sz enc L)
    (xv : Value) (K2 : List α) (hone : ∀ x ∈ K2, ∀ u ∈ enc x, u.oneCell' = true) (hx : a.eval x = xv) (hK : Rows w xv sz enc K2)
    (hlen : L.length + K2.length ≤ 4000000) (hB : B ≤ w.heap.size)
    (h : ∀ v' w', Own E w' B v' sz enc (L ++ K2) → w.grownBy w' v.ownBlock → Below B w w' → Frsh w v v' → K (a.put o.dst v') w') : if Region.wanted o (yielded ops a.tmps) = true then Oper.wp P o a w K Q else F := by
  rw [if_pos hw]
  obtain ⟨v', w', hr, h1, h2, h3, h4⟩ := run_appsZ (P := P) t o.type E z sz bytes ht hI hzs hsz hby B enc hen v L hown xv K2 hone hK hlen hB
  unfold Oper.wp execOp
  simp only [ho, resolve, invoke, builtin, Sem.run_bind, Sem.run_pure, Result.andThen_ok, List.map_toArray, List.map_cons, List.map_nil, hs, hx, hr]
  exact h v' w' h1 h2 h3 h4
theorem wpList_appsZ {α : Type} {P : Program} {ops : Array Oper} {rest : List Oper} {o : Oper} {a : Act} {w : World} {Q : Exit → Act → World → Prop} (hgd : o.guard = none) (s x : Operand) (t : TypeId)
    (ho : o.op = .call { callee := .builtin .append, args := #[s, x], argTypes := #[t, t] })
    (E : TypeId) (z : Value) (sz bytes : Nat) (ht : P.underlying t = some (.slice E)) (hI : (P.info? E).map (fun i => (i.zero, i.size, i.bytes)) = some (some z, sz, bytes)) (hzs : z.cells.size = sz) (hsz : 0 < sz) (hby : bytes ≤ 1000)
    (B : Nat) (enc : α → List Value) (hen : ∀ x, (enc x).length = sz) (v : Value) (L : List α) (hs : a.eval s = v) (hown : Own E w B v sz enc L)
    (xv : Value) (K2 : List α) (hone : ∀ x ∈ K2, ∀ u ∈ enc x, u.oneCell' = true) (hx : a.eval x = xv) (hK : Rows w xv sz enc K2)
    (hlen : L.length + K2.length ≤ 4000000) (hB : B ≤ w.heap.size)
    (h : ∀ v' w', Own E w' B v' sz enc (L ++ K2) → w.grownBy w' v.ownBlock → Below B w w' → Frsh w v v' → wpList P ops Q rest (a.put o.dst v') w') : wpList P ops Q (o :: rest) a w := by
  obtain ⟨v', w', hr, h1, h2, h3, h4⟩ := run_appsZ (P := P) t o.type E z sz bytes ht hI hzs hsz hby B enc hen v L hown xv K2 hone hK hlen hB
  refine wpList_plain hgd fun K hK => ?_
  unfold Oper.wp execOp
  simp only [ho, resolve, invoke, builtin, Sem.run_bind, Sem.run_pure, Result.andThen_ok, List.map_toArray, List.map_cons, List.map_nil, hs, hx, hr]
  exact hK _ _ (h v' w' h1 h2 h3 h4)
end Go.Proofs.Ytjkfnjjkjhggfaa
