/- Appending a whole slice to a slice of one's own. strconv.Itoa of a digit, errors.New, errors.Join of two. Rows of numbers, and rows of rows; what a matrix of relations is. -/
import Derived.Test.YtonojegnbcgnaaaDoorZ3
import Derived.Laws.MakeOwn
import Derived.Deep.AppendLies
import Derived.RangeFuncBox
set_option linter.unusedSimpArgs false
set_option linter.unusedVariables false
namespace Go.Proofs.YtonojegnbcgnaaaDoor
open Go.RowKit

theorem flat_at {α : Type} {enc : α → List Value} {sz : Nat} (hs : ∀ x, (enc x).length = sz) : ∀ (L : List α) (j : Nat) (u : Value), (L.flatMap enc)[j]? = some u → ∃ k x i, L[k]? = some x ∧ (enc x)[i]? = some u ∧ j = k * sz + i
  | [], j, u, h => by simp at h
  | y :: L, j, u, h => by
    rw [List.flatMap_cons] at h
    by_cases hj : j < sz
    · rw [List.getElem?_append_left (by rw [hs]; exact hj)] at h
      exact ⟨0, y, j, rfl, h, by omega⟩
    · rw [List.getElem?_append_right (by rw [hs]; omega), hs] at h
      obtain ⟨k, x, i, h1, h2, h3⟩ := flat_at hs L _ u h
      exact ⟨k + 1, x, i, by simpa using h1, h2, by rw [Nat.succ_mul]; omega⟩
theorem addr_add' (b off n : Nat) : (⟨b, off, none⟩ : Addr).add n = ⟨b, off + n, none⟩ := by
  unfold Addr.add; split <;> simp_all
theorem rows_flat {α : Type} {w : World} {b off n c sz : Nat} {enc : α → List Value} {L : List α} (h : Rows w (.slice (some ⟨b, off, none⟩) n c) sz enc L) (hs : ∀ x, (enc x).length = sz) : ∀ j u, (L.flatMap enc)[j]? = some u → w.cell? ((⟨b, off, none⟩ : Addr).add j) = some u := by
  intro j u hu
  obtain ⟨k, x, i, h1, h2, h3⟩ := flat_at hs L j u hu
  rw [addr_add', h3]
  have := h.get h1 h2
  rw [← Nat.add_assoc]; exact this
theorem flat_len {α : Type} {enc : α → List Value} {sz : Nat} (hs : ∀ x, (enc x).length = sz) (L : List α) : (L.flatMap enc).length = L.length * sz := by
  induction L with
  | nil => simp
  | cons x L ih => rw [List.flatMap_cons, List.length_append, ih, hs, List.length_cons, Nat.succ_mul]; omega
theorem append_block0 {P : Program} {w : World} (base : Nat) (t ty e : TypeId) (i : TypeInfo) (z : Value) (size bytes : Nat) (ht : P.underlying t = some (.slice e)) (hi : P.info? e = some i) (hz : i.zero = some z)
    (hsize : i.size = size) (hby : i.bytes = bytes)
    (v : Value) (n : Nat) (xs : List Value) (hown : w.ownsRow base e size v n xs)
    (a : Addr) (m c : Nat) (news : List Value) (hl : news.length = m * size) (hnews : ∀ j u, news[j]? = some u → w.cell? (a.add j) = some u) (h1 : ∀ u ∈ news, u.oneCell' = true)
    (h63 : n + m ≤ maxLen) (hbytes : (n + m) * bytes ≤ 140737488355328) {v' : Value} {w' : World}
    (hr0 : (Builtin.append_ #[t, t] ty #[v, .slice (some a) m c]).run P w = .ok v' w') : Frsh w v v' := by
  by_cases hm0 : 0 < m
  · exact append_block base t ty e i z size bytes ht hi hz hsize hby v n xs hown a m c news hl hnews h1 h63 hbytes hm0 hr0
  obtain rfl : m = 0 := by omega
  subst hsize
  rcases hown.2 with ⟨rfl, rfl⟩ | ⟨g, cap, cur, rfl, hbg, hg, hnc, hcm, hcs, htake⟩
  · have hr : (Builtin.append_ #[t, t] ty #[.slice none 0 0, .slice (some a) 0 c]).run P w = .ok (.slice none 0 0) w := by
      simp [Builtin.append_, run_underlying ht, sizeOf, typeInfo, hi, Builtin.lenOf, Builtin.firstCells, loadCells, loadCellsFrom]
    rw [hr] at hr0
    injection hr0 with h1 h2
    subst h1
    exact Or.inl rfl
  · have hfit : n * i.size + news.length ≤ cur.size := by rw [hl, hcs, ← Nat.add_mul]; exact Nat.mul_le_mul_right _ (by omega)
    have hr := run_append_room (P := P) w t ty e i ht hi g n cap cur hg a 0 c news hl hnews h1 (by omega) hfit
    rw [hr] at hr0
    injection hr0 with h1 h2
    subst h1
    exact Or.inl rfl
theorem wpList_apps {α : Type} {P : Program} {ops : Array Oper} {rest : List Oper} {o : Oper} {a : Act} {w : World} {Q : Exit → Act → World → Prop} (hgd : o.guard = none) (s x : Operand) (t : TypeId)
    (ho : o.op = .call { callee := .builtin .append, args := #[s, x], argTypes := #[t, t] })
    (E : TypeId) (z : Value) (sz bytes : Nat) (ht : P.underlying t = some (.slice E)) (hI : (P.info? E).map (fun i => (i.zero, i.size, i.bytes)) = some (some z, sz, bytes)) (hzs : z.cells.size = sz) (hsz : 0 < sz) (hby : bytes ≤ 1000)
    (B : Nat) (enc : α → List Value) (hen : ∀ x, (enc x).length = sz) (hone : ∀ x, ∀ u ∈ enc x, u.oneCell' = true) (v : Value) (L : List α) (hs : a.eval s = v) (hown : Own E w B v sz enc L)
    (b off m c : Nat) (K : List α) (hx : a.eval x = .slice (some ⟨b, off, none⟩) m c) (hK : Rows w (.slice (some ⟨b, off, none⟩) m c) sz enc K)
    (hlen : L.length + m ≤ 1000000) (hB : B ≤ w.heap.size)
    (h : ∀ v' w', Own E w' B v' sz enc (L ++ K) → w.grownBy w' v.ownBlock → Below B w w' → Frsh w v v' → (v' = .slice none 0 0 ↔ v = .slice none 0 0 ∧ m = 0) → wpList P ops Q rest (a.put o.dst v') w') : wpList P ops Q (o :: rest) a w := by
  obtain ⟨i, hi, hz, hsize, hbytes⟩ := info_parts hI
  have hKm : K.length = m := by
    obtain ⟨ao, cap, e, _⟩ := hK.ex
    injection e with _ e; exact e.symm
  have hm : L.length + m ≤ maxLen := by unfold maxLen; omega
  have hb : (L.length + m) * bytes ≤ 140737488355328 := Nat.le_trans (Nat.mul_le_mul (show L.length + m ≤ 1000001 by omega) hby) (by omega)
  have hfl : (K.flatMap enc).length = m * sz := by rw [flat_len hen, hKm]
  have hone' : ∀ u ∈ K.flatMap enc, u.oneCell' = true := fun u hu => by
    obtain ⟨y, _, hy⟩ := List.mem_flatMap.1 hu
    exact hone y u hy
  obtain ⟨v', w', hr, h2, h3, h4⟩ := run_append_own (P := P) w B t o.type E i z sz bytes ht hi hz hsize hbytes hzs hsz v L.length (L.flatMap enc) hown ⟨b, off, none⟩ m c (K.flatMap enc) hfl (rows_flat hK hen) hone' hm hb hB
  have hf := append_block0 (P := P) (w := w) B t o.type E i z sz bytes ht hi hz hsize hbytes v L.length (L.flatMap enc) hown ⟨b, off, none⟩ m c (K.flatMap enc) hfl (rows_flat hK hen) hone' hm hb hr
  refine wpList_plain hgd fun K' hK' => ?_
  unfold Oper.wp execOp
  simp only [ho, resolve, invoke, builtin, Sem.run_bind, Sem.run_pure, Result.andThen_ok, List.map_toArray, List.map_cons, List.map_nil, hs, hx, hr]
  exact hK' _ _ (h v' w' (by unfold Own; rw [List.length_append, List.flatMap_append, hKm]; exact h2) h3 (own_grown hown h3 hB) hf h4)
/-- A part of a slice reads as that part of the list. -/
theorem Rows.sub {α : Type} {w : World} {b off n c sz : Nat} {enc : α → List Value} {L : List α} (h : Rows w (.slice (some ⟨b, off, Option.none⟩) n c) sz enc L) {i j c' : Nat} (hij : i ≤ j) (hj : j ≤ n) (hc : j - i ≤ c') (hc' : c' ≤ 9223372036854775807) : Rows w (.slice (some ⟨b, off + i * sz, Option.none⟩) (j - i) c') sz enc ((L.take j).drop i) := by
  obtain ⟨ao, cap, e, h1, h2, h3⟩ := h.ex
  injection e with e1 e2 e3
  subst e1; subst e3
  have hl : ((L.take j).drop i).length = j - i := by rw [List.length_drop, List.length_take]; omega
  refine ⟨⟨some ⟨b, off + i * sz, Option.none⟩, c', by rw [hl], by omega, hc', fun k x hk => ⟨b, off + i * sz, rfl, fun q u hq => ?_⟩⟩⟩
  rw [List.getElem?_drop, List.getElem?_take] at hk
  split at hk
  · have := h.get hk hq
    rw [Nat.add_mul] at this
    rw [show off + i * sz + k * sz + q = off + (i * sz + k * sz) + q by omega]; exact this
  · cases hk
end Go.Proofs.YtonojegnbcgnaaaDoor
set_option linter.unusedSimpArgs false
set_option linter.unusedVariables false
namespace Go.Proofs.YtonojegnbcgnaaaDoor
open Go.RowKit

theorem Itoa_ex (k : Nat) (hk : k < 10) (w : World) :
    Calls Tryd.prog 112 #[.int .i64 k] w fun e w' => ∃ s : ByteArray, s.size ≤ 10 ∧ e = .returned (.string s) ∧ w' = w := by
  have h1 : (k : Int) < 100 := by omega
  have h2 : (k : Int) < 10 := by omega
  have h3 : (0 : Int) ≤ k := by omega
  go_enter Tryd.func112, Tryd.ntmps112
  go_wp2
  go_ret
  exact ⟨_, by simp [ByteArray.size_extract]; omega, rfl, rfl⟩
theorem New_any (s : ByteArray) (w : World) :
    Calls Tryd.prog 111 #[.string s] w fun e w' => e = .returned (.iface 147 (.pointer (some ⟨w.heap.size, 0, none⟩))) ∧ w' = w.alloc (.cells #[.string s] 149) := by
  go_enter Tryd.func111, Tryd.ntmps111
  go_wp2
  go_ret
  exact ⟨rfl, rfl⟩
theorem infoErr : (Tryd.prog.info? 116).map (fun i => (i.zero, i.size, i.bytes)) = some (some .nilIface, 1, 16) := by kernel_rfl
theorem make_err (w : World) : (Instr.makeSlice 143 (.int .i64 0) (.int .i64 2)).run Tryd.prog w = .ok (.slice (some ⟨w.heap.size, 0, none⟩) 0 2) (w.alloc (.cells #[.nilIface, .nilIface] 116)) := by
  obtain ⟨j0, hj, hy0, hy1, hy2⟩ := info_parts infoErr
  have := run_make (P := Tryd.prog) w 143 116 j0 .nilIface Tryd.underlying143 hj hy0 .i64 .i64 0 2 (by omega) (by omega) (by rw [hy2]; omega) (by omega)
  rw [hy1] at this
  have e : madeCells Value.nilIface.cells (Int.toNat 2 * 1) = #[.nilIface, .nilIface] := by kernel_rfl
  rw [e] at this
  exact this
set_option maxRecDepth 100000 in
theorem Join_any (g : Nat) (v0 v1 : Value) (w : World) (h0 : w.cell? ⟨g, 0, none⟩ = some (.iface 147 v0)) (h1 : w.cell? ⟨g, 1, none⟩ = some (.iface 147 v1)) :
    Calls Tryd.prog 110 #[.slice (some ⟨g, 0, none⟩) 2 2] w fun e w' => ∃ pb g2 n c, e = .returned (.iface 144 (.pointer (some ⟨pb, 0, none⟩))) ∧ 0 < n ∧ w'.cell? ⟨pb, 0, none⟩ = some (.slice (some ⟨g2, 0, none⟩) n c) ∧ w'.cell? ⟨g2, 0, none⟩ = some (.iface 147 v0) ∧ Below w.heap.size w w' := by
  have hm := make_err w
  have hg := World.block_lt_of_cell? _ _ h0
  dsimp only at hg
  go_enter Tryd.func110, Tryd.ntmps110
  go_wp2
  refine wp_loop_rounds 3 ?_
  rw [rounds_succ]
  go_wp2
  rw [rounds_succ]
  go_wp2
  rw [rounds_succ]
  go_wp2
  clear hm
  have n1 : w.heap.size + 1 ≠ w.heap.size := by omega
  have n2 : w.heap.size ≠ g := by omega
  have n3 : w.heap.size + 1 ≠ g := by omega
  have old : ∀ (A1 A2 A3 : Array Value) (T1 T2 T3 : TypeId), (((w.alloc (.cells A1 T1)).alloc (.cells A2 T2)).alloc (.cells A3 T3)).cell? ⟨g, 1, none⟩ = some (.iface 147 v1) := fun A1 A2 A3 T1 T2 T3 =>
    (((((Below.refl w.heap.size w).alloc (Nat.le_refl _) _).alloc (by simp) _).alloc (by simp; omega) _).cell (by dsimp only; omega)).trans h1
  refine wp_loop_rounds 3 ?_
  rw [rounds_succ]
  go_wp2
  rw [rounds_succ]
  go_wp2
  rw [rounds_succ]
  go_wp2
  go_ret
  have two : ∀ (A B C D : Array Value) (T1 T2 T3 T4 : TypeId), ((((w.alloc (.cells A T1)).alloc (.cells B T2)).alloc (.cells C T3)).alloc (.cells D T4)).cell? ⟨w.heap.size + 1, 0, none⟩ = B[0]? := fun A B C D T1 T2 T3 T4 => by
    have h1 := ((Below.refl (w.heap.size + 2) ((w.alloc (.cells A T1)).alloc (.cells B T2))).alloc (by simp) (.cells C T3)).alloc (by simp) (.cells D T4)
    have h2 := World.cell?_alloc_new (w.alloc (.cells A T1)) B T2 0
    rw [World.size_alloc] at h2
    exact (h1.cell (by dsimp only; omega)).trans h2
  have one : ∀ (A B C D : Array Value) (T1 T2 T3 T4 : TypeId), ((((w.alloc (.cells A T1)).alloc (.cells B T2)).alloc (.cells C T3)).alloc (.cells D T4)).cell? ⟨w.heap.size, 0, none⟩ = A[0]? := fun A B C D T1 T2 T3 T4 => by
    have h1 := (((Below.refl (w.heap.size + 1) (w.alloc (.cells A T1))).alloc (by simp) (.cells B T2)).alloc (by simp) (.cells C T3)).alloc (by simp) (.cells D T4)
    exact (h1.cell (by dsimp only; omega)).trans (World.cell?_alloc_new w A T1 0)
  refine ⟨w.heap.size + 1, w.heap.size, 2, 2, rfl, by omega, two _ _ _ _ _ _ _ _, one _ _ _ _ _ _ _ _, ?_⟩
  exact ((((Below.refl _ _).alloc (Nat.le_refl _) _).alloc (by simp) _).alloc (by simp; omega) _).alloc (by simp; omega) _
end Go.Proofs.YtonojegnbcgnaaaDoor
set_option linter.unusedSimpArgs false
set_option linter.unusedVariables false
namespace Go.Proofs.YtonojegnbcgnaaaDoor
open Go.RowKit

def encI (n : Int) : List Value := [.int .i64 n]
def encV (u : Value) : List Value := [u]
abbrev Ints (w : World) (v : Value) (L : List Int) : Prop := Rows w v 1 encI L
theorem Ints.cases {w : World} {v : Value} {L : List Int} (h : Ints w v L) :
    ∃ n cap, Hid (L.length = n) ∧ n ≤ cap ∧ cap ≤ 9223372036854775807 ∧ ((n ≤ 0 ∧ ∃ ao, v = .slice ao n cap) ∨ (0 < n ∧ ∃ b off, v = .slice (some ⟨b, off, none⟩) n cap ∧ Hid (∀ k x, L[k]? = some x → w.cell? ⟨b, off + k, none⟩ = some (.int .i64 x)))) := by
  obtain ⟨n, cap, hn, h1, h2, h3⟩ := Rows.cases h
  refine ⟨n, cap, hn, h1, h2, ?_⟩
  rcases h3 with h3 | ⟨hp, b, off, rfl, hc⟩
  · exact Or.inl h3
  · refine Or.inr ⟨hp, b, off, rfl, fun k x hk => ?_⟩
    have := hc.out k x hk 0 _ rfl
    simpa using this
/-- The number at a place. -/
theorem Ints.get {w : World} {b off n cap : Nat} {L : List Int} (h : Ints w (.slice (some ⟨b, off, none⟩) n cap) L) {k : Nat} {x : Int} (hk : L[k]? = some x) : w.cell? ⟨b, off + k, none⟩ = some (.int .i64 x) := by
  have := Rows.get h hk (j := 0) rfl
  simpa using this
theorem Ints.getD {w : World} {b off n cap : Nat} {L : List Int} (h : Ints w (.slice (some ⟨b, off, none⟩) n cap) L) {k : Nat} (hk : k < L.length) : w.cell? ⟨b, off + k, none⟩ = some (.int .i64 (L.getD k 0)) :=
  h.get (by rw [List.getElem?_eq_getElem hk]; simp [List.getD, hk])

/-- A slice of slices of numbers that reads as the matrix M. -/
structure Mat (w : World) (v : Value) (M : List (List Int)) : Prop where
  ex : ∃ vs : List Value, Rows w v 1 encV vs ∧ vs.length = M.length ∧ ∀ (i : Nat) (r : List Int), M[i]? = some r → ∃ u : Value, vs[i]? = some u ∧ Ints w u r
theorem Mat.below {w w' : World} {v : Value} {M : List (List Int)} (h : Mat w v M) (hb : Below w.heap.size w w') : Mat w' v M := by
  obtain ⟨vs, h1, h2, h3⟩ := h.ex
  refine ⟨vs, h1.below hb, h2, fun i r hi => ?_⟩
  obtain ⟨u, hu, hr⟩ := h3 i r hi
  exact ⟨u, hu, hr.below hb⟩
theorem Mat.alloc {w : World} {v : Value} {M : List (List Int)} (h : Mat w v M) (o : Obj) : Mat (w.alloc o) v M := h.below ((Below.refl _ _).alloc (Nat.le_refl _) _)
theorem Mat.cases {w : World} {v : Value} {M : List (List Int)} (h : Mat w v M) :
    ∃ n cap, Hid (M.length = n) ∧ n ≤ cap ∧ cap ≤ 9223372036854775807 ∧ ((n ≤ 0 ∧ ∃ ao, v = .slice ao n cap) ∨ (0 < n ∧ ∃ b off, v = .slice (some ⟨b, off, none⟩) n cap)) := by
  obtain ⟨vs, h1, h2, h3⟩ := h.ex
  obtain ⟨n, cap, hn, k1, k2, k3⟩ := Rows.cases h1
  refine ⟨n, cap, h2.symm.trans hn.out, k1, k2, ?_⟩
  rcases k3 with k3 | ⟨hp, b, off, rfl, hc⟩
  · exact Or.inl k3
  · exact Or.inr ⟨hp, b, off, rfl⟩
/-- A row of it: its slice's address, and what stands in it. -/
theorem Mat.at {w : World} {b off n cap : Nat} {M : List (List Int)} (h : Mat w (.slice (some ⟨b, off, none⟩) n cap) M) {k : Nat} (hk : k < M.length) :
    ∃ a m c, w.cell? ⟨b, off + k, none⟩ = some (.slice a m c) ∧ Hid ((M.getD k []).length = m) ∧ Ints w (.slice a m c) (M.getD k []) ∧ m ≤ c ∧ c ≤ 9223372036854775807 := by
  obtain ⟨vs, h1, h2, h3⟩ := h.ex
  obtain ⟨u, hu, hr⟩ := h3 k M[k] (List.getElem?_eq_getElem hk)
  have hc := Rows.get h1 hu (j := 0) (u := u) rfl
  obtain ⟨ao, c, rfl, g1, g2, _⟩ := hr.ex
  have e : M.getD k [] = M[k] := by simp [List.getD, hk]
  refine ⟨ao, M[k].length, c, ?_, ?_, ?_, g1, g2⟩
  · simpa using hc
  · show _ = _; rw [e]
  · rw [e]; exact hr
theorem Ints.some {w : World} {a : Option Addr} {m c : Nat} {L : List Int} (h : Ints w (.slice a m c) L) (hm : 0 < m) : ∃ b off, a = some ⟨b, off, none⟩ := by
  obtain ⟨n, cap, hn, _, _, ⟨h0, ao, e⟩ | ⟨_, b, off, e, _⟩⟩ := Ints.cases h
  · injection e with e1 e2 e3; omega
  · injection e with e1 e2 e3; exact ⟨b, off, e1⟩

def mget (M : List (List Int)) (i k : Nat) : Int := (M.getD i []).getD k 0
/-- What the other is to one, if one is so much to it. -/
def bk (r : Int) : Int := if r = 1 then 3 else if r = 3 then 1 else r
def OkAt (M : List (List Int)) (i k : Nat) : Prop := (M.getD k []).length = M.length ∧ Bts (mget M i k) 0 3 ∧ mget M k i = bk (mget M i k) ∧ (i = k → mget M i k = 0)
instance (M : List (List Int)) (i k : Nat) : Decidable (OkAt M i k) := by unfold OkAt; infer_instance
def RowOk (M : List (List Int)) (i : Nat) : Prop := (M.getD i []).length = M.length ∧ ∀ k, k < M.length → OkAt M i k
instance (M : List (List Int)) (i : Nat) : Decidable (RowOk M i) := by unfold RowOk; infer_instance
def RelsP (M : List (List Int)) : Prop := (∀ i, i < M.length → RowOk M i) ∧ 1 ≤ M.length ∧ M.length ≤ 5
instance (M : List (List Int)) : Decidable (RelsP M) := by unfold RelsP; infer_instance
theorem bk_bk {r : Int} (h : Bts r 0 3) : bk (bk r) = r ∧ Bts (bk r) 0 3 := by
  unfold Bts at *; unfold bk; repeat' split
  all_goals omega
theorem relsP_no {M : List (List Int)} {n i k : Nat} (hn : M.length = n) (hi : i < n) (hk : k < n) (h : ¬ OkAt M i k) : decide (RelsP M) = false := by
  simp only [decide_eq_false_iff_not]
  exact fun hp => h ((hp.1 i (by omega)).2 k (by omega))
theorem relsP_row {M : List (List Int)} {n i : Nat} (hn : M.length = n) (hi : i < n) (h : (M.getD i []).length ≠ n) : decide (RelsP M) = false := by
  simp only [decide_eq_false_iff_not]
  exact fun hp => h (by rw [(hp.1 i (by omega)).1, hn])
theorem relsP_all {M : List (List Int)} {n : Nat} (hn : M.length = n) (h : ∀ i, i < n → RowOk M i) : decide (RelsP M) = decide (Bts (n : Int) 1 5) := by
  refine decide_eq_decide.2 ?_
  unfold RelsP Bts
  constructor
  · rintro ⟨_, h1, h2⟩; omega
  · rintro ⟨h1, h2⟩; exact ⟨fun i hi => h i (by omega), by omega, by omega⟩
end Go.Proofs.YtonojegnbcgnaaaDoor
