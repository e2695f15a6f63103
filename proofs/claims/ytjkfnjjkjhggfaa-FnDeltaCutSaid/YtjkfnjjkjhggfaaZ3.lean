/- Appending a whole slice to a slice of one's own. The reader's walks: pick, l6Open. Small words used everywhere: numbers in bounds; what a callee leaves. -/
import Derived.Test.YtjkfnjjkjhggfaaZ2
import Derived.Test.YtjkfnjjkjhggfaaRows
import Derived.Test.YtjkfnjjkjhggfaaZ1
set_option linter.unusedSimpArgs false
set_option linter.unusedVariables false
namespace Go.Proofs.Ytjkfnjjkjhggfaa
open Go.RowKit

theorem flat_at {α : Type} {enc : α → List Value} {sz : Nat} (hs : ∀ x, (enc x).length = sz) : ∀ (L : List α) (j : Nat) (u : Value), (L.flatMap enc)[j]? = some u → ∃ k x i, L[k]? = some x ∧ (enc x)[i]? = some u ∧ j = k * sz + i
  | [], j, u, h => by simp at h
  | y :: L, j, u, h => by
    rw [List.flatMap_cons] at h
    by_cases hj : j < sz
    · rw [List.getElem?_append_left (by rw [hs]; exact hj)] at h
      exact ⟨0, y, j, rfl, h, by omega⟩
    · rw [List.getElem?_append_right (by rw [hs]; omega), hs] at h
      obtain ⟨k, x, i, h1, h2, h3⟩ := flat_at hs L _ u h
      exact ⟨k + 1, x, i, by simpa using h1, h2, by rw [Nat.succ_mul]; omega⟩
theorem addr_add' (b off n : Nat) : (⟨b, off, none⟩ : Addr).add n = ⟨b, off + n, none⟩ := by
  unfold Addr.add; split <;> simp_all
theorem rows_flat {α : Type} {w : World} {b off n c sz : Nat} {enc : α → List Value} {L : List α} (h : Rows w (.slice (some ⟨b, off, none⟩) n c) sz enc L) (hs : ∀ x, (enc x).length = sz) : ∀ j u, (L.flatMap enc)[j]? = some u → w.cell? ((⟨b, off, none⟩ : Addr).add j) = some u := by
  intro j u hu
  obtain ⟨k, x, i, h1, h2, h3⟩ := flat_at hs L j u hu
  rw [addr_add', h3]
  have := h.get h1 h2
  rw [← Nat.add_assoc]; exact this
theorem flat_len {α : Type} {enc : α → List Value} {sz : Nat} (hs : ∀ x, (enc x).length = sz) (L : List α) : (L.flatMap enc).length = L.length * sz := by
  induction L with
  | nil => simp
  | cons x L ih => rw [List.flatMap_cons, List.length_append, ih, hs, List.length_cons, Nat.succ_mul]; omega
theorem append_block0 {P : Program} {w : World} (base : Nat) (t ty e : TypeId) (i : TypeInfo) (z : Value) (size bytes : Nat) (ht : P.underlying t = some (.slice e)) (hi : P.info? e = some i) (hz : i.zero = some z)
    (hsize : i.size = size) (hby : i.bytes = bytes)
    (v : Value) (n : Nat) (xs : List Value) (hown : w.ownsRow base e size v n xs)
    (a : Addr) (m c : Nat) (news : List Value) (hl : news.length = m * size) (hnews : ∀ j u, news[j]? = some u → w.cell? (a.add j) = some u) (h1 : ∀ u ∈ news, u.oneCell' = true)
    (h63 : n + m ≤ maxLen) (hbytes : (n + m) * bytes ≤ 140737488355328) {v' : Value} {w' : World}
    (hr0 : (Builtin.append_ #[t, t] ty #[v, .slice (some a) m c]).run P w = .ok v' w') : Frsh w v v' := by
  by_cases hm0 : 0 < m
  · exact append_block base t ty e i z size bytes ht hi hz hsize hby v n xs hown a m c news hl hnews h1 h63 hbytes hm0 hr0
  obtain rfl : m = 0 := by omega
  subst hsize
  rcases hown.2 with ⟨rfl, rfl⟩ | ⟨g, cap, cur, rfl, hbg, hg, hnc, hcm, hcs, htake⟩
  · have hr : (Builtin.append_ #[t, t] ty #[.slice none 0 0, .slice (some a) 0 c]).run P w = .ok (.slice none 0 0) w := by
      simp [Builtin.append_, run_underlying ht, sizeOf, typeInfo, hi, Builtin.lenOf, Builtin.firstCells, loadCells, loadCellsFrom]
    rw [hr] at hr0
    injection hr0 with h1 h2
    subst h1
    exact Or.inl rfl
  · have hfit : n * i.size + news.length ≤ cur.size := by rw [hl, hcs, ← Nat.add_mul]; exact Nat.mul_le_mul_right _ (by omega)
    have hr := run_append_room (P := P) w t ty e i ht hi g n cap cur hg a 0 c news hl hnews h1 (by omega) hfit
    rw [hr] at hr0
    injection hr0 with h1 h2
    subst h1
    exact Or.inl rfl
theorem wpList_apps {α : Type} {P : Program} {ops : Array Oper} {rest : List Oper} {o : Oper} {a : Act} {w : World} {Q : Exit → Act → World → Prop} (hgd : o.guard = none) (s x : Operand) (t : TypeId)
    (ho : o.op = .call { callee := .builtin .append, args := #[s, x], argTypes := #[t, t] })
    (E : TypeId) (z : Value) (sz bytes : Nat) (ht : P.underlying t = some (.slice E)) (hI : (P.info? E).map (fun i => (i.zero, i.size, i.bytes)) = some (some z, sz, bytes)) (hzs : z.cells.size = sz) (hsz : 0 < sz) (hby : bytes ≤ 1000)
    (B : Nat) (enc : α → List Value) (hen : ∀ x, (enc x).length = sz) (hone : ∀ x, ∀ u ∈ enc x, u.oneCell' = true) (v : Value) (L : List α) (hs : a.eval s = v) (hown : Own E w B v sz enc L)
    (b off m c : Nat) (K : List α) (hx : a.eval x = .slice (some ⟨b, off, none⟩) m c) (hK : Rows w (.slice (some ⟨b, off, none⟩) m c) sz enc K)
    (hlen : L.length + m ≤ 1000000) (hB : B ≤ w.heap.size)
    (h : ∀ v' w', Own E w' B v' sz enc (L ++ K) → w.grownBy w' v.ownBlock → Below B w w' → Frsh w v v' → (v' = .slice none 0 0 ↔ v = .slice none 0 0 ∧ m = 0) → wpList P ops Q rest (a.put o.dst v') w') : wpList P ops Q (o :: rest) a w := by
  obtain ⟨i, hi, hz, hsize, hbytes⟩ := info_parts hI
  have hKm : K.length = m := by
    obtain ⟨ao, cap, e, _⟩ := hK.ex
    injection e with _ e; exact e.symm
  have hm : L.length + m ≤ maxLen := by unfold maxLen; omega
  have hb : (L.length + m) * bytes ≤ 140737488355328 := Nat.le_trans (Nat.mul_le_mul (show L.length + m ≤ 1000001 by omega) hby) (by omega)
  have hfl : (K.flatMap enc).length = m * sz := by rw [flat_len hen, hKm]
  have hone' : ∀ u ∈ K.flatMap enc, u.oneCell' = true := fun u hu => by
    obtain ⟨y, _, hy⟩ := List.mem_flatMap.1 hu
    exact hone y u hy
  obtain ⟨v', w', hr, h2, h3, h4⟩ := run_append_own (P := P) w B t o.type E i z sz bytes ht hi hz hsize hbytes hzs hsz v L.length (L.flatMap enc) hown ⟨b, off, none⟩ m c (K.flatMap enc) hfl (rows_flat hK hen) hone' hm hb hB
  have hf := append_block0 (P := P) (w := w) B t o.type E i z sz bytes ht hi hz hsize hbytes v L.length (L.flatMap enc) hown ⟨b, off, none⟩ m c (K.flatMap enc) hfl (rows_flat hK hen) hone' hm hb hr
  refine wpList_plain hgd fun K' hK' => ?_
  unfold Oper.wp execOp
  simp only [ho, resolve, invoke, builtin, Sem.run_bind, Sem.run_pure, Result.andThen_ok, List.map_toArray, List.map_cons, List.map_nil, hs, hx, hr]
  exact hK' _ _ (h v' w' (by unfold Own; rw [List.length_append, List.flatMap_append, hKm]; exact h2) h3 (own_grown hown h3 hB) hf h4)
/-- A part of a slice reads as that part of the list. -/
theorem Rows.sub {α : Type} {w : World} {b off n c sz : Nat} {enc : α → List Value} {L : List α} (h : Rows w (.slice (some ⟨b, off, Option.none⟩) n c) sz enc L) {i j c' : Nat} (hij : i ≤ j) (hj : j ≤ n) (hc : j - i ≤ c') (hc' : c' ≤ 9223372036854775807) : Rows w (.slice (some ⟨b, off + i * sz, Option.none⟩) (j - i) c') sz enc ((L.take j).drop i) := by
  obtain ⟨ao, cap, e, h1, h2, h3⟩ := h.ex
  injection e with e1 e2 e3
  subst e1; subst e3
  have hl : ((L.take j).drop i).length = j - i := by rw [List.length_drop, List.length_take]; omega
  refine ⟨⟨some ⟨b, off + i * sz, Option.none⟩, c', by rw [hl], by omega, hc', fun k x hk => ⟨b, off + i * sz, rfl, fun q u hq => ?_⟩⟩⟩
  rw [List.getElem?_drop, List.getElem?_take] at hk
  split at hk
  · have := h.get hk hq
    rw [Nat.add_mul] at this
    rw [show off + i * sz + k * sz + q = off + (i * sz + k * sz) + q by omega]; exact this
  · cases hk
end Go.Proofs.Ytjkfnjjkjhggfaa
set_option linter.unusedSimpArgs false
set_option linter.unusedVariables false
namespace Go.Proofs.Ytjkfnjjkjhggfaa
open Go.RowKit

set_option maxHeartbeats 1000000 in
theorem pick_any (r k : Nat) (N : Int) (w : World) (h : Rd w r k) (hk : k ≤ 1000000) (hN : 1 ≤ N) (hN' : N ≤ 1000000) :
    Calls Try.prog 41 #[.pointer (some ⟨r, 0, none⟩), .int .i64 N] w fun e w' => ∃ v : Int, e = .returned (.int .i64 v) ∧ 0 ≤ v ∧ v < N ∧ Rd w' r (k + 1) ∧ Kp r w w' := by
  have hR := Lib.hid h.step
  have hR' := Lib.hid ((Kp.refl r w).setCell (p := ⟨r, 1, none⟩) (Or.inr rfl) (.int .i64 ((k : Int) + 1)))
  obtain ⟨hf, h1, v, n, h0, hn, ao, cap, rfl, hz⟩ := h
  have hN1 : decide (N < 1) = false := by simp; omega
  by_cases hn0 : n = 0
  · subst hn0
    go_enter Try.func41, Try.ntmps41
    go_wp2
    go_ret
    exact ⟨0, rfl, by omega, by omega, hR.out, hR'.out⟩
  · obtain ⟨b, off, zs, rfl, hbr, hc⟩ := hz (by omega)
    have hbr1 : ¬ b = r := by omega
    have hbr2 : ¬ r = b := by omega
    clear hz
    have e0 : decide (n = 0) = false := by simp [hn0]
    have e1 : ((n : Int) == 0) = false := by simp [hn0]
    by_cases hkn : k < n
    · obtain ⟨hc1, hc2, hc3⟩ := hc k hkn
      go_enter Try.func41, Try.ntmps41
      go_wp2
      go_ret
      exact ⟨_, rfl, Int.emod_nonneg _ (by omega), Int.emod_lt_of_pos _ (by omega), hR.out, hR'.out⟩
    · have q0 : (0:Int) < n := by omega
      have q1 : 0 ≤ (k : Int) % n := Int.emod_nonneg _ (by omega)
      have q2 : (k : Int) % n < n := Int.emod_lt_of_pos _ q0
      have q3 : 0 ≤ ((k : Int) * 7 + 3) % n := Int.emod_nonneg _ (by omega)
      have q4 : ((k : Int) * 7 + 3) % n < n := Int.emod_lt_of_pos _ q0
      have q5 : 0 ≤ (k : Int) / n := Int.ediv_nonneg (by omega) (by omega)
      have q6 : (k : Int) / n ≤ 1000000 := Int.le_trans (Int.ediv_le_self _ (by omega)) (by omega)
      obtain ⟨hd1, hd2, hd3⟩ := hc (k % n) (Nat.mod_lt _ (by omega))
      obtain ⟨he1, he2, he3⟩ := hc ((k * 7 + 3) % n) (Nat.mod_lt _ (by omega))
      clear hc
      have hx := xor_i64 (zs (k % n) * 131 + zs ((k * 7 + 3) % n) * 1117 + k * 29 + k / n * 53) (by omega) (by omega)
      go_enter Try.func41, Try.ntmps41
      go_wp2
      go_quiet (fail)
      go_wp2
      go_ret
      exact ⟨_, rfl, Int.emod_nonneg _ (by omega), Int.emod_lt_of_pos _ (by omega), hR.out.drewN, hR'.out.drewN⟩

theorem open_any (v : Value) (w : World) (h : Given w v) :
    Calls Try.prog 31 #[v] w fun e w' => e = .returned (.pointer (some ⟨w.heap.size, 0, none⟩)) ∧ Rd w' w.heap.size 0 ∧ Below w.heap.size w w' := by
  obtain ⟨ao, n, cap, rfl, hnc, hcap, hz⟩ := h
  by_cases hn : 2000 < n
  · have hd : decide (2000 < (n : Int)) = true := by simp; omega
    obtain ⟨b, off, zs, rfl, hb, hc⟩ := hz (by omega)
    have hB : Bytes w (.slice (some ⟨b, off, none⟩) 2000 cap) 2000 w.heap.size := ⟨Nat.le_refl _, _, _, rfl, fun _ => ⟨b, off, zs, rfl, hb, fun i hi => hc i (by omega)⟩⟩
    clear hz hc
    go_enter Try.func31, Try.ntmps31
    go_wp2
    go_ret
    exact ⟨rfl, Rd.opened hB _, (Below.refl _ _).alloc (Nat.le_refl _) _⟩
  · have hd : decide (2000 < (n : Int)) = false := by simp; omega
    have hB : Bytes w (.slice ao n cap) n w.heap.size := ⟨by omega, _, _, rfl, hz⟩
    clear hz
    go_enter Try.func31, Try.ntmps31
    go_wp2
    go_ret
    exact ⟨rfl, Rd.opened hB _, (Below.refl _ _).alloc (Nat.le_refl _) _⟩
end Go.Proofs.Ytjkfnjjkjhggfaa
set_option linter.unusedSimpArgs false
set_option linter.unusedVariables false
namespace Go.Proofs.Ytjkfnjjkjhggfaa
open Go.RowKit

theorem bcell {W w1 : World} {B : Nat} (hb : Below B W w1) : (∀ b o, b < B → w1.cell? ⟨b, o, none⟩ = W.cell? ⟨b, o, none⟩) ∧ (∀ b o, b < B → w1.frozen? ⟨b, o, none⟩ = W.frozen? ⟨b, o, none⟩) :=
  ⟨fun b o h => hb.cell (p := ⟨b, o, none⟩) h, fun b o h => hb.frozen (p := ⟨b, o, none⟩) h⟩
theorem Cl.c2 {w : World} (x : Cl w.heap.size w) {b : Nat} {v0 v1 : Value} (o : w.cell? ⟨b, 0, none⟩ = some v0 ∧ w.cell? ⟨b, 1, none⟩ = some v1 ∧ w.frozen? ⟨b, 0, none⟩ = false ∧ w.frozen? ⟨b, 1, none⟩ = false) :
    x.W.cell? ⟨b, 0, none⟩ = some v0 ∧ x.W.cell? ⟨b, 1, none⟩ = some v1 := ⟨x.cell o.1, x.cell o.2.1⟩
def Bts (n lo hi : Int) : Prop := lo ≤ n ∧ n ≤ hi
instance (n lo hi : Int) : Decidable (Bts n lo hi) := by unfold Bts; infer_instance
theorem l6In_any (n lo hi : Int) (w : World) :
    Calls Try.prog 22 #[.int .i64 n, .int .i64 lo, .int .i64 hi] w fun e w' => e = .returned (.bool (decide (Bts n lo hi))) ∧ Below w.heap.size w w' := by
  go_enter Try.func22, Try.ntmps22
  go_wp2
  all_goals (go_ret; refine ⟨ret_bool ?_, Below.refl _ _⟩; rw [Bool.eq_iff_iff]; simp; unfold Bts; omega)
end Go.Proofs.Ytjkfnjjkjhggfaa
