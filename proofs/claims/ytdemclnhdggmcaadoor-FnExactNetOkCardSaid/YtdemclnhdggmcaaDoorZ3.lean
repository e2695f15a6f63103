/- Appending a whole slice to a slice of one's own. The reader's walks: pick, l6Open. Small words used everywhere: numbers in bounds; what a callee leaves. -/
import Derived.Test.YtdemclnhdggmcaaDoorZ2
import Derived.Test.YtdemclnhdggmcaaDoorRows
import Derived.Test.YtdemclnhdggmcaaDoorZ1
set_option linter.unusedSimpArgs false
set_option linter.unusedVariables false
namespace Go.Proofs.YtdemclnhdggmcaaDoor
open Go.RowKit

theorem flat_at {α : Type} {enc : α → List Value} {sz : Nat} (hs : ∀ x, (enc x).length = sz) : ∀ (L : List α) (j : Nat) (u : Value), (L.flatMap enc)[j]? = some u → ∃ k x i, L[k]? = some x ∧ (enc x)[i]? = some u ∧ j = k * sz + i
  | [], j, u, h => by simp at h
  | y :: L, j, u, h => by
    rw [List.flatMap_cons] at h
    by_cases hj : j < sz
    · rw [List.getElem?_append_left (by rw [hs]; exact hj)] at h
      exact ⟨0, y, j, rfl, h, by omega⟩
    · rw [List.getElem?_append_right (by rw [hs]; omega), hs] at h
      obtain ⟨k, x, i, h1, h2, h3⟩ := flat_at hs L _ u h
      exact ⟨k + 1, x, i, by simpa using h1, h2, by rw [Nat.succ_mul]; omega⟩
theorem addr_add' (b off n : Nat) : (⟨b, off, none⟩ : Addr).add n = ⟨b, off + n, none⟩ := by
  unfold Addr.add; split <;> simp_all
theorem rows_flat {α : Type} {w : World} {b off n c sz : Nat} {enc : α → List Value} {L : List α} (h : Rows w (.slice (some ⟨b, off, none⟩) n c) sz enc L) (hs : ∀ x, (enc x).length = sz) : ∀ j u, (L.flatMap enc)[j]? = some u → w.cell? ((⟨b, off, none⟩ : Addr).add j) = some u := by
  intro j u hu
  obtain ⟨k, x, i, h1, h2, h3⟩ := flat_at hs L j u hu
  rw [addr_add', h3]
  have := h.get h1 h2
  rw [← Nat.add_assoc]; exact this
theorem flat_len {α : Type} {enc : α → List Value} {sz : Nat} (hs : ∀ x, (enc x).length = sz) (L : List α) : (L.flatMap enc).length = L.length * sz := by
  induction L with
  | nil => simp
  | cons x L ih => rw [List.flatMap_cons, List.length_append, ih, hs, List.length_cons, Nat.succ_mul]; omega
theorem append_block0 {P : Program} {w : World} (base : Nat) (t ty e : TypeId) (i : TypeInfo) (z : Value) (size bytes : Nat) (ht : P.underlying t = some (.slice e)) (hi : P.info? e = some i) (hz : i.zero = some z)
    (hsize : i.size = size) (hby : i.bytes = bytes)
    (v : Value) (n : Nat) (xs : List Value) (hown : w.ownsRow base e size v n xs)
    (a : Addr) (m c : Nat) (news : List Value) (hl : news.length = m * size) (hnews : ∀ j u, news[j]? = some u → w.cell? (a.add j) = some u) (h1 : ∀ u ∈ news, u.oneCell' = true)
    (h63 : n + m ≤ maxLen) (hbytes : (n + m) * bytes ≤ 140737488355328) {v' : Value} {w' : World}
    (hr0 : (Builtin.append_ #[t, t] ty #[v, .slice (some a) m c]).run P w = .ok v' w') : Frsh w v v' := by
  by_cases hm0 : 0 < m
  · exact append_block base t ty e i z size bytes ht hi hz hsize hby v n xs hown a m c news hl hnews h1 h63 hbytes hm0 hr0
  obtain rfl : m = 0 := by omega
  subst hsize
  rcases hown.2 with ⟨rfl, rfl⟩ | ⟨g, cap, cur, rfl, hbg, hg, hnc, hcm, hcs, htake⟩
  · have hr : (Builtin.append_ #[t, t] ty #[.slice none 0 0, .slice (some a) 0 c]).run P w = .ok (.slice none 0 0) w := by
      simp [Builtin.append_, run_underlying ht, sizeOf, typeInfo, hi, Builtin.lenOf, Builtin.firstCells, loadCells, loadCellsFrom]
    rw [hr] at hr0
    injection hr0 with h1 h2
    subst h1
    exact Or.inl rfl
  · have hfit : n * i.size + news.length ≤ cur.size := by rw [hl, hcs, ← Nat.add_mul]; exact Nat.mul_le_mul_right _ (by omega)
    have hr := run_append_room (P := P) w t ty e i ht hi g n cap cur hg a 0 c news hl hnews h1 (by omega) hfit
    rw [hr] at hr0
    injection hr0 with h1 h2
    subst h1
    exact Or.inl rfl
theorem wpList_apps {α : Type} {P : Program} {ops : Array Oper} {rest : List Oper} {o : Oper} {a : Act} {w : World} {Q : Exit → Act → World → Prop} (hgd : o.guard = none) (s x : Operand) (t : TypeId)
    (ho : o.op = .call { callee := .builtin .append, args := #[s, x], argTypes := #[t, t] })
    (E : TypeId) (z : Value) (sz bytes : Nat) (ht : P.underlying t = some (.slice E)) (hI : (P.info? E).map (fun i => (i.zero, i.size, i.bytes)) = some (some z, sz, bytes)) (hzs : z.cells.size = sz) (hsz : 0 < sz) (hby : bytes ≤ 1000)
    (B : Nat) (enc : α → List Value) (hen : ∀ x, (enc x).length = sz) (hone : ∀ x, ∀ u ∈ enc x, u.oneCell' = true) (v : Value) (L : List α) (hs : a.eval s = v) (hown : Own E w B v sz enc L)
    (b off m c : Nat) (K : List α) (hx : a.eval x = .slice (some ⟨b, off, none⟩) m c) (hK : Rows w (.slice (some ⟨b, off, none⟩) m c) sz enc K)
    (hlen : L.length + m ≤ 1000000) (hB : B ≤ w.heap.size)
    (h : ∀ v' w', Own E w' B v' sz enc (L ++ K) → w.grownBy w' v.ownBlock → Below B w w' → Frsh w v v' → (v' = .slice none 0 0 ↔ v = .slice none 0 0 ∧ m = 0) → wpList P ops Q rest (a.put o.dst v') w') : wpList P ops Q (o :: rest) a w := by
  obtain ⟨i, hi, hz, hsize, hbytes⟩ := info_parts hI
  have hKm : K.length = m := by
    obtain ⟨ao, cap, e, _⟩ := hK.ex
    injection e with _ e; exact e.symm
  have hm : L.length + m ≤ maxLen := by unfold maxLen; omega
  have hb : (L.length + m) * bytes ≤ 140737488355328 := Nat.le_trans (Nat.mul_le_mul (show L.length + m ≤ 1000001 by omega) hby) (by omega)
  have hfl : (K.flatMap enc).length = m * sz := by rw [flat_len hen, hKm]
  have hone' : ∀ u ∈ K.flatMap enc, u.oneCell' = true := fun u hu => by
    obtain ⟨y, _, hy⟩ := List.mem_flatMap.1 hu
    exact hone y u hy
  obtain ⟨v', w', hr, h2, h3, h4⟩ := run_append_own (P := P) w B t o.type E i z sz bytes ht hi hz hsize hbytes hzs hsz v L.length (L.flatMap enc) hown ⟨b, off, none⟩ m c (K.flatMap enc) hfl (rows_flat hK hen) hone' hm hb hB
  have hf := append_block0 (P := P) (w := w) B t o.type E i z sz bytes ht hi hz hsize hbytes v L.length (L.flatMap enc) hown ⟨b, off, none⟩ m c (K.flatMap enc) hfl (rows_flat hK hen) hone' hm hb hr
  refine wpList_plain hgd fun K' hK' => ?_
  unfold Oper.wp execOp
  simp only [ho, resolve, invoke, builtin, Sem.run_bind, Sem.run_pure, Result.andThen_ok, List.map_toArray, List.map_cons, List.map_nil, hs, hx, hr]
  exact hK' _ _ (h v' w' (by unfold Own; rw [List.length_append, List.flatMap_append, hKm]; exact h2) h3 (own_grown hown h3 hB) hf h4)
/-- A part of a slice reads as that part of the list. -/
theorem Rows.sub {α : Type} {w : World} {b off n c sz : Nat} {enc : α → List Value} {L : List α} (h : Rows w (.slice (some ⟨b, off, Option.none⟩) n c) sz enc L) {i j c' : Nat} (hij : i ≤ j) (hj : j ≤ n) (hc : j - i ≤ c') (hc' : c' ≤ 9223372036854775807) : Rows w (.slice (some ⟨b, off + i * sz, Option.none⟩) (j - i) c') sz enc ((L.take j).drop i) := by
  obtain ⟨ao, cap, e, h1, h2, h3⟩ := h.ex
  injection e with e1 e2 e3
  subst e1; subst e3
  have hl : ((L.take j).drop i).length = j - i := by rw [List.length_drop, List.length_take]; omega
  refine ⟨⟨some ⟨b, off + i * sz, Option.none⟩, c', by rw [hl], by omega, hc', fun k x hk => ⟨b, off + i * sz, rfl, fun q u hq => ?_⟩⟩⟩
  rw [List.getElem?_drop, List.getElem?_take] at hk
  split at hk
  · have := h.get hk hq
    rw [Nat.add_mul] at this
    rw [show off + i * sz + k * sz + q = off + (i * sz + k * sz) + q by omega]; exact this
  · cases hk
end Go.Proofs.YtdemclnhdggmcaaDoor
set_option linter.unusedSimpArgs false
set_option linter.unusedVariables false
namespace Go.Proofs.YtdemclnhdggmcaaDoor
open Go.RowKit

end Go.Proofs.YtdemclnhdggmcaaDoor
set_option linter.unusedSimpArgs false
set_option linter.unusedVariables false
namespace Go.Proofs.YtdemclnhdggmcaaDoor
open Go.RowKit

theorem bcell {W w1 : World} {B : Nat} (hb : Below B W w1) : (∀ b o, b < B → w1.cell? ⟨b, o, none⟩ = W.cell? ⟨b, o, none⟩) ∧ (∀ b o, b < B → w1.frozen? ⟨b, o, none⟩ = W.frozen? ⟨b, o, none⟩) :=
  ⟨fun b o h => hb.cell (p := ⟨b, o, none⟩) h, fun b o h => hb.frozen (p := ⟨b, o, none⟩) h⟩
theorem Cl.c2 {w : World} (x : Cl w.heap.size w) {b : Nat} {v0 v1 : Value} (o : w.cell? ⟨b, 0, none⟩ = some v0 ∧ w.cell? ⟨b, 1, none⟩ = some v1 ∧ w.frozen? ⟨b, 0, none⟩ = false ∧ w.frozen? ⟨b, 1, none⟩ = false) :
    x.W.cell? ⟨b, 0, none⟩ = some v0 ∧ x.W.cell? ⟨b, 1, none⟩ = some v1 := ⟨x.cell o.1, x.cell o.2.1⟩
def Bts (n lo hi : Int) : Prop := lo ≤ n ∧ n ≤ hi
instance (n lo hi : Int) : Decidable (Bts n lo hi) := by unfold Bts; infer_instance
theorem l6In_any (n lo hi : Int) (w : World) :
    Calls Tryd.prog 11 #[.int .i64 n, .int .i64 lo, .int .i64 hi] w fun e w' => e = .returned (.bool (decide (Bts n lo hi))) ∧ Below w.heap.size w w' := by
  go_enter Tryd.func11, Tryd.ntmps11
  go_wp2
  all_goals (go_ret; refine ⟨ret_bool ?_, Below.refl _ _⟩; rw [Bool.eq_iff_iff]; simp; unfold Bts; omega)
end Go.Proofs.YtdemclnhdggmcaaDoor
