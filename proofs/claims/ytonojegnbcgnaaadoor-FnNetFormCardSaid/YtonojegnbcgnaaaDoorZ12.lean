/- append of a whole slice onto an owned row, at a step of a region that draws its order. append of any slice, nil or not, onto an owned row. Nets: NetOk of the program. -/
import Derived.Test.YtonojegnbcgnaaaDoorZ3
import Derived.Deep.RegionHeldLaw
import Derived.Deep.RegionLaw
import Derived.Deep.AppendLies
import Derived.Test.YtonojegnbcgnaaaDoorZ11
set_option linter.unusedSimpArgs false
set_option linter.unusedVariables false
namespace Go.Proofs.YtonojegnbcgnaaaDoor
open Go Go.RowKit

theorem step_appsM {α : Type} {P : Program} {ops : Array Oper} {o : Oper} {a : Act} {w : World} {K : Act → World → Prop} {Q : Exit → Act → World → Prop} {F : Prop} (hw : Region.wanted o (yielded ops a.tmps) = true) (s x : Operand) (t : TypeId)
    (ho : o.op = .call { callee := .builtin .append, args := #[s, x], argTypes := #[t, t] })
    (E : TypeId) (z : Value) (sz bytes : Nat) (ht : P.underlying t = some (.slice E)) (hI : (P.info? E).map (fun i => (i.zero, i.size, i.bytes)) = some (some z, sz, bytes)) (hzs : z.cells.size = sz) (hsz : 0 < sz) (hby : bytes ≤ 1000)
    (B : Nat) (enc : α → List Value) (hen : ∀ x, (enc x).length = sz) (v : Value) (L : List α) (hs : a.eval s = v) (hown : Own E w B v sz enc L)
    (b off m c : Nat) (K2 : List α) (hone : ∀ x ∈ K2, ∀ u ∈ enc x, u.oneCell' = true) (hx : a.eval x = .slice (some ⟨b, off, none⟩) m c) (hK : Rows w (.slice (some ⟨b, off, none⟩) m c) sz enc K2)
    (hlen : L.length + m ≤ 1000000) (hB : B ≤ w.heap.size)
    (h : ∀ v' w', Own E w' B v' sz enc (L ++ K2) → w.grownBy w' v.ownBlock → Below B w w' → Frsh w v v' → K (a.put o.dst v') w') : if Region.wanted o (yielded ops a.tmps) = true then Oper.wp P o a w K Q else F := by
  rw [if_pos hw]
  obtain ⟨i, hi, hz, hsize, hbytes⟩ := info_parts hI
  have hKm : K2.length = m := by
    obtain ⟨ao, cap, e, _⟩ := hK.ex
    injection e with _ e; exact e.symm
  have hm : L.length + m ≤ maxLen := by unfold maxLen; omega
  have hb : (L.length + m) * bytes ≤ 140737488355328 := Nat.le_trans (Nat.mul_le_mul (show L.length + m ≤ 1000001 by omega) hby) (by omega)
  have hfl : (K2.flatMap enc).length = m * sz := by rw [flat_len hen, hKm]
  have hone' : ∀ u ∈ K2.flatMap enc, u.oneCell' = true := fun u hu => by
    obtain ⟨y, hy1, hy⟩ := List.mem_flatMap.1 hu
    exact hone y hy1 u hy
  obtain ⟨v', w', hr, h2, h3, h4⟩ := run_append_own (P := P) w B t o.type E i z sz bytes ht hi hz hsize hbytes hzs hsz v L.length (L.flatMap enc) hown ⟨b, off, none⟩ m c (K2.flatMap enc) hfl (rows_flat hK hen) hone' hm hb hB
  have hf := append_block0 (P := P) (w := w) B t o.type E i z sz bytes ht hi hz hsize hbytes v L.length (L.flatMap enc) hown ⟨b, off, none⟩ m c (K2.flatMap enc) hfl (rows_flat hK hen) hone' hm hb hr
  unfold Oper.wp execOp
  simp only [ho, resolve, invoke, builtin, Sem.run_bind, Sem.run_pure, Result.andThen_ok, List.map_toArray, List.map_cons, List.map_nil, hs, hx, hr]
  exact h v' w' (by unfold Own; rw [List.length_append, List.flatMap_append, hKm]; exact h2) h3 (own_grown hown h3 hB) hf
theorem step_apps {α : Type} {P : Program} {ops : Array Oper} {o : Oper} {a : Act} {w : World} {K : Act → World → Prop} {Q : Exit → Act → World → Prop} {F : Prop} (hw : Region.wanted o (yielded ops a.tmps) = true) (s x : Operand) (t : TypeId)
    (ho : o.op = .call { callee := .builtin .append, args := #[s, x], argTypes := #[t, t] })
    (E : TypeId) (z : Value) (sz bytes : Nat) (ht : P.underlying t = some (.slice E)) (hI : (P.info? E).map (fun i => (i.zero, i.size, i.bytes)) = some (some z, sz, bytes)) (hzs : z.cells.size = sz) (hsz : 0 < sz) (hby : bytes ≤ 1000)
    (B : Nat) (enc : α → List Value) (hen : ∀ x, (enc x).length = sz) (hone : ∀ x, ∀ u ∈ enc x, u.oneCell' = true) (v : Value) (L : List α) (hs : a.eval s = v) (hown : Own E w B v sz enc L)
    (b off m c : Nat) (K2 : List α) (hx : a.eval x = .slice (some ⟨b, off, none⟩) m c) (hK : Rows w (.slice (some ⟨b, off, none⟩) m c) sz enc K2)
    (hlen : L.length + m ≤ 1000000) (hB : B ≤ w.heap.size)
    (h : ∀ v' w', Own E w' B v' sz enc (L ++ K2) → w.grownBy w' v.ownBlock → Below B w w' → Frsh w v v' → K (a.put o.dst v') w') : if Region.wanted o (yielded ops a.tmps) = true then Oper.wp P o a w K Q else F := by
  rw [if_pos hw]
  obtain ⟨i, hi, hz, hsize, hbytes⟩ := info_parts hI
  have hKm : K2.length = m := by
    obtain ⟨ao, cap, e, _⟩ := hK.ex
    injection e with _ e; exact e.symm
  have hm : L.length + m ≤ maxLen := by unfold maxLen; omega
  have hb : (L.length + m) * bytes ≤ 140737488355328 := Nat.le_trans (Nat.mul_le_mul (show L.length + m ≤ 1000001 by omega) hby) (by omega)
  have hfl : (K2.flatMap enc).length = m * sz := by rw [flat_len hen, hKm]
  have hone' : ∀ u ∈ K2.flatMap enc, u.oneCell' = true := fun u hu => by
    obtain ⟨y, _, hy⟩ := List.mem_flatMap.1 hu
    exact hone y u hy
  obtain ⟨v', w', hr, h2, h3, h4⟩ := run_append_own (P := P) w B t o.type E i z sz bytes ht hi hz hsize hbytes hzs hsz v L.length (L.flatMap enc) hown ⟨b, off, none⟩ m c (K2.flatMap enc) hfl (rows_flat hK hen) hone' hm hb hB
  have hf := append_block0 (P := P) (w := w) B t o.type E i z sz bytes ht hi hz hsize hbytes v L.length (L.flatMap enc) hown ⟨b, off, none⟩ m c (K2.flatMap enc) hfl (rows_flat hK hen) hone' hm hb hr
  unfold Oper.wp execOp
  simp only [ho, resolve, invoke, builtin, Sem.run_bind, Sem.run_pure, Result.andThen_ok, List.map_toArray, List.map_cons, List.map_nil, hs, hx, hr]
  exact h v' w' (by unfold Own; rw [List.length_append, List.flatMap_append, hKm]; exact h2) h3 (own_grown hown h3 hB) hf
theorem step_app1 {α : Type} {P : Program} {ops : Array Oper} {o : Oper} {a : Act} {w : World} {K : Act → World → Prop} {Q : Exit → Act → World → Prop} {F : Prop} (hw : Region.wanted o (yielded ops a.tmps) = true) (s x : Operand) (t : TypeId)
    (ho : o.op = .call { callee := .builtin .append, args := #[s, x], argTypes := #[t, t] })
    (E : TypeId) (z : Value) (sz bytes : Nat) (ht : P.underlying t = some (.slice E)) (hI : (P.info? E).map (fun i => (i.zero, i.size, i.bytes)) = some (some z, sz, bytes)) (hzs : z.cells.size = sz) (hsz : 0 < sz) (hby : bytes ≤ 1000)
    (B : Nat) (enc : α → List Value) (v : Value) (L : List α) (hs : a.eval s = v) (hown : Own E w B v sz enc L) (y : α)
    (ad : Addr) (c : Nat) (hx : a.eval x = .slice (some ad) 1 c) (hl : (enc y).length = sz) (hnews : ∀ j u, (enc y)[j]? = some u → w.cell? (ad.add j) = some u) (h1 : ∀ u ∈ enc y, u.oneCell' = true)
    (hlen : L.length ≤ 1000000) (hB : B ≤ w.heap.size)
    (h : ∀ v' w', Own E w' B v' sz enc (L ++ [y]) → w.grownBy w' v.ownBlock → Below B w w' → Frsh w v v' → K (a.put o.dst v') w') : if Region.wanted o (yielded ops a.tmps) = true then Oper.wp P o a w K Q else F := by
  rw [if_pos hw]
  obtain ⟨i, hi, hz, hsize, hbytes⟩ := info_parts hI
  have hm : L.length + 1 ≤ maxLen := by unfold maxLen; omega
  have hb : (L.length + 1) * bytes ≤ 140737488355328 := Nat.le_trans (Nat.mul_le_mul (show L.length + 1 ≤ 1000001 by omega) hby) (by omega)
  obtain ⟨v', w', hr, h2, h3, h4⟩ := run_append_own (P := P) w B t o.type E i z sz bytes ht hi hz hsize hbytes hzs hsz v L.length (L.flatMap enc) hown ad 1 c (enc y) (by omega) hnews h1 hm hb hB
  have hf := append_block (P := P) (w := w) B t o.type E i z sz bytes ht hi hz hsize hbytes v L.length (L.flatMap enc) hown ad 1 c (enc y) (by omega) hnews h1 hm hb (by omega) hr
  unfold Oper.wp execOp
  simp only [ho, resolve, invoke, builtin, Sem.run_bind, Sem.run_pure, Result.andThen_ok, List.map_toArray, List.map_cons, List.map_nil, hs, hx, hr]
  exact h v' w' (by unfold Own; rw [List.length_append, List.flatMap_append]; simpa using h2) h3 (own_grown hown h3 hB) hf
/-- A guarded operation that is wanted, in a region that goes in order. -/
theorem wpListG {P : Program} {ops : Array Oper} {rest : List Oper} {o : Oper} {a : Act} {w : World} {Q : Exit → Act → World → Prop} (hw : Region.wanted o (yielded ops a.tmps) = true)
    (h : if Region.wanted o (yielded ops a.tmps) = true then Oper.wp P o a w (wpList P ops Q rest) Q else True) : wpList P ops Q (o :: rest) a w := by
  rw [if_pos hw] at h
  unfold wpList
  rw [if_pos hw]
  exact Or.inl h
end Go.Proofs.YtonojegnbcgnaaaDoor
set_option linter.unusedSimpArgs false
set_option linter.unusedVariables false
namespace Go.Proofs.YtonojegnbcgnaaaDoor
open Go Go.RowKit

theorem run_app_none {P : Program} (w : World) (t ty E : TypeId) (i : TypeInfo) (ht : P.underlying t = some (.slice E)) (hi : P.info? E = some i) (base size n c : Nat) (v : Value) (xs : List Value) (h : w.ownsRow base E size v n xs) :
    (Builtin.append_ #[t, t] ty #[v, .slice none 0 c]).run P w = .ok v w := by
  obtain ⟨h1, ⟨rfl, h2⟩ | ⟨g, cap, cur, rfl, _, _, h4, _⟩⟩ := h
  · simp [Builtin.append_, run_underlying ht, sizeOf, typeInfo, hi, Builtin.lenOf, Builtin.firstCells]
  · simp [Builtin.append_, run_underlying ht, sizeOf, typeInfo, hi, Builtin.lenOf, Builtin.firstCells, storeCells, h4]
theorem run_appsZ {α : Type} {P : Program} {w : World} (t ty E : TypeId) (z : Value) (sz bytes : Nat) (ht : P.underlying t = some (.slice E)) (hI : (P.info? E).map (fun i => (i.zero, i.size, i.bytes)) = some (some z, sz, bytes)) (hzs : z.cells.size = sz) (hsz : 0 < sz) (hby : bytes ≤ 1000)
    (B : Nat) (enc : α → List Value) (hen : ∀ x, (enc x).length = sz) (v : Value) (L : List α) (hown : Own E w B v sz enc L)
    (xv : Value) (K : List α) (hone : ∀ x ∈ K, ∀ u ∈ enc x, u.oneCell' = true) (hK : Rows w xv sz enc K) (hlen : L.length + K.length ≤ 4000000) (hB : B ≤ w.heap.size) :
    ∃ v' w', (Builtin.append_ #[t, t] ty #[v, xv]).run P w = .ok v' w' ∧ Own E w' B v' sz enc (L ++ K) ∧ w.grownBy w' v.ownBlock ∧ Below B w w' ∧ Frsh w v v' := by
  obtain ⟨i, hi, hz, hsize, hbytes⟩ := info_parts hI
  obtain ⟨ao, cap, rfl, h1, h2, h3⟩ := hK.ex
  have hm : L.length + K.length ≤ maxLen := by unfold maxLen; omega
  have hb : (L.length + K.length) * bytes ≤ 140737488355328 := Nat.le_trans (Nat.mul_le_mul (show L.length + K.length ≤ 4000001 by omega) hby) (by omega)
  cases ao with
  | none =>
    have hk : K = [] := by
      cases K with
      | nil => rfl
      | cons y K => obtain ⟨b, off, e, _⟩ := h3 0 y rfl; cases e
    subst hk
    refine ⟨v, w, run_app_none w t ty E i ht hi B sz L.length cap v _ hown, by simpa using hown, ⟨rfl, rfl, rfl, Nat.le_refl _, fun _ _ _ => rfl⟩, Below.refl _ _, Or.inl rfl⟩
  | some ad =>
    have hfl : (K.flatMap enc).length = K.length * sz := flat_len hen K
    have hone' : ∀ u ∈ K.flatMap enc, u.oneCell' = true := fun u hu => by
      obtain ⟨y, hy1, hy⟩ := List.mem_flatMap.1 hu
      exact hone y hy1 u hy
    have hnews : ∀ j u, (K.flatMap enc)[j]? = some u → w.cell? (ad.add j) = some u := fun j u hj => by
      obtain ⟨k, x, q, hk, hq, e⟩ := flat_at hen K j u hj
      obtain ⟨b, off, e1, hc⟩ := h3 k x hk
      injection e1 with e1
      subst e1
      rw [addr_add', e, ← Nat.add_assoc]
      exact hc q u hq
    obtain ⟨v', w', hr, k2, k3, k4⟩ := run_append_own (P := P) w B t ty E i z sz bytes ht hi hz hsize hbytes hzs hsz v L.length (L.flatMap enc) hown ad K.length cap (K.flatMap enc) hfl hnews hone' hm hb hB
    have hf := append_block0 (P := P) (w := w) B t ty E i z sz bytes ht hi hz hsize hbytes v L.length (L.flatMap enc) hown ad K.length cap (K.flatMap enc) hfl hnews hone' hm hb hr
    exact ⟨v', w', hr, by unfold Own; rw [List.length_append, List.flatMap_append]; exact k2, k3, own_grown hown k3 hB, hf⟩
theorem step_appsZ {α : Type} {P : Program} {ops : Array Oper} {o : Oper} {a : Act} {w : World} {K : Act → World → Prop} {Q : Exit → Act → World → Prop} {F : Prop} (hw : Region.wanted o (yielded ops a.tmps) = true) (s x : Operand) (t : TypeId)
    (ho : o.op = .call { callee := .builtin .append, args := #[s, x], argTypes := #[t, t] })
    (E : TypeId) (z : Value) (sz bytes : Nat) (ht : P.underlying t = some (.slice E)) (hI : (P.info? E).map (fun i => (i.zero, i.size, i.bytes)) = some (some z, sz, bytes)) (hzs : z.cells.size = sz) (hsz : 0 < sz) (hby : bytes ≤ 1000)
    (B : Nat) (enc : α → List Value) (hen : ∀ x, (enc x).length = sz) (v : Value) (L : List α) (hs : a.eval s = v) (hown : Own E w B v sz enc L)
    (xv : Value) (K2 : List α) (hone : ∀ x ∈ K2, ∀ u ∈ enc x, u.oneCell' = true) (hx : a.eval x = xv) (hK : Rows w xv sz enc K2)
    (hlen : L.length + K2.length ≤ 4000000) (hB : B ≤ w.heap.size)
    (h : ∀ v' w', Own E w' B v' sz enc (L ++ K2) → w.grownBy w' v.ownBlock → Below B w w' → Frsh w v v' → K (a.put o.dst v') w') : if Region.wanted o (yielded ops a.tmps) = true then Oper.wp P o a w K Q else F := by
  rw [if_pos hw]
  obtain ⟨v', w', hr, h1, h2, h3, h4⟩ := run_appsZ (P := P) t o.type E z sz bytes ht hI hzs hsz hby B enc hen v L hown xv K2 hone hK hlen hB
  unfold Oper.wp execOp
  simp only [ho, resolve, invoke, builtin, Sem.run_bind, Sem.run_pure, Result.andThen_ok, List.map_toArray, List.map_cons, List.map_nil, hs, hx, hr]
  exact h v' w' h1 h2 h3 h4
theorem wpList_appsZ {α : Type} {P : Program} {ops : Array Oper} {rest : List Oper} {o : Oper} {a : Act} {w : World} {Q : Exit → Act → World → Prop} (hgd : o.guard = none) (s x : Operand) (t : TypeId)
    (ho : o.op = .call { callee := .builtin .append, args := #[s, x], argTypes := #[t, t] })
    (E : TypeId) (z : Value) (sz bytes : Nat) (ht : P.underlying t = some (.slice E)) (hI : (P.info? E).map (fun i => (i.zero, i.size, i.bytes)) = some (some z, sz, bytes)) (hzs : z.cells.size = sz) (hsz : 0 < sz) (hby : bytes ≤ 1000)
    (B : Nat) (enc : α → List Value) (hen : ∀ x, (enc x).length = sz) (v : Value) (L : List α) (hs : a.eval s = v) (hown : Own E w B v sz enc L)
    (xv : Value) (K2 : List α) (hone : ∀ x ∈ K2, ∀ u ∈ enc x, u.oneCell' = true) (hx : a.eval x = xv) (hK : Rows w xv sz enc K2)
    (hlen : L.length + K2.length ≤ 4000000) (hB : B ≤ w.heap.size)
    (h : ∀ v' w', Own E w' B v' sz enc (L ++ K2) → w.grownBy w' v.ownBlock → Below B w w' → Frsh w v v' → wpList P ops Q rest (a.put o.dst v') w') : wpList P ops Q (o :: rest) a w := by
  obtain ⟨v', w', hr, h1, h2, h3, h4⟩ := run_appsZ (P := P) t o.type E z sz bytes ht hI hzs hsz hby B enc hen v L hown xv K2 hone hK hlen hB
  refine wpList_plain hgd fun K hK => ?_
  unfold Oper.wp execOp
  simp only [ho, resolve, invoke, builtin, Sem.run_bind, Sem.run_pure, Result.andThen_ok, List.map_toArray, List.map_cons, List.map_nil, hs, hx, hr]
  exact hK _ _ (h v' w' h1 h2 h3 h4)
end Go.Proofs.YtonojegnbcgnaaaDoor
set_option linter.unusedSimpArgs false
set_option linter.unusedVariables false
namespace Go.Proofs.YtonojegnbcgnaaaDoor
open Go.RowKit Go.Maps Go.WideMaps

theorem slW_nil (a : Option Addr) (n c : Nat) (w : World) : (binOp .eql 25 (.slice a n c) (.slice none 0 0)).run Tryd.prog w = .ok (.bool a.isNone) w := Go.Lib.run_eql_slice_nil w 25 3 a n c 0 0 Tryd.underlying25
set_option maxRecDepth 100000 in
set_option maxHeartbeats 1000000 in
theorem CloneZ_any (v : Value) (L : List Int) (w : World) (hv : Ints w v L) (hl : L.length ≤ 3000000) :
    Calls Tryd.prog 80 #[v] w fun e w' => ∃ u, e = .returned u ∧ Own 3 w' w.heap.size u 1 encI L ∧ Below w.heap.size w w' := by
  obtain ⟨ao, c, rfl, h1, h2, h3⟩ := hv.ex
  have hnil := slW_nil ao L.length c
  cases ao with
  | none =>
    have hL : L = [] := by
      cases L with
      | nil => rfl
      | cons y L => obtain ⟨b, off, e, _⟩ := h3 0 y rfl; cases e
    subst hL
    clear hv h3 hnil
    have hnil := slW_nil none 0 c
    simp only [List.length_nil]
    go_enter Tryd.func80, Tryd.ntmps80
    go_wp2
    go_ret
    exact ⟨_, rfl, Own.nil _ _ _ _ _, Below.refl _ _⟩
  | some ad =>
    have hF := (Fb.start w).other (.cells #[] 3)
    have hO : Own 3 (w.alloc (.cells #[] 3)) w.heap.size (.slice (some ⟨w.heap.size, 0, none⟩) 0 0) 1 encI [] := Own.made _ _ _ _ _ (Nat.le_refl _)
    have hV := Lib.hid (Rows.alloc hv (.cells #[] 3))
    clear hv h3
    go_enter Tryd.func80, Tryd.ntmps80
    go_wp2_with (at_builtin; go_must (refine wpList_appsZ rfl _ _ 25 rfl 3 (.int .i64 0) 1 8 Tryd.underlying25 infoInt rfl (by decide) (by decide) w.heap.size encI (fun _ => rfl) _ [] rfl hO (.slice (some ad) L.length c) L (fun _ _ u hu => by simp [encI] at hu; subst hu; rfl) rfl hV.out (by simp only [List.length_nil]; omega) (by simp) ?_); intro v' wx hO1 hg1 hb1 hf1; rw [List.nil_append] at hO1; replace hF := hF.belowB hb1 (Nat.le_refl _) (by simp))
    go_ret
    exact ⟨_, rfl, hO1, hF.kp⟩
set_option maxHeartbeats 2000000 in
theorem copyWays_any (u : Value) (W : List (List Int)) (w : World) (hW : GLs shI w u W) (hl : W.length ≤ 1000) (hr : ∀ P ∈ W, P.length ≤ 3000000) :
    Calls Tryd.prog 101 #[u] w fun e w' => ∃ a m c, e = .returned (.slice a m c) ∧ Below w.heap.size w w' := by
  have hF := (Fb.start w).other (.cells (zarrV W.length) 25)
  obtain ⟨ao, n, cap, rfl, hn, hnc, hcap⟩ := GLs.sl hW
  rw [hn.out] at hF
  have hn1 : n ≤ 1000 := by have := hn.out; omega
  have hO := own_zarrV w w.heap.size n (Nat.le_refl _) (by omega)
  have hmk := make_rows n hn1
  have HW := Lib.hid hW
  have HR := Lib.hid hr
  obtain ⟨g, hg⟩ : ∃ g, w.heap.size = g := ⟨_, rfl⟩
  rw [hg] at hO
  clear hW hr hl
  go_enter Tryd.func101, Tryd.ntmps101
  go_wp2
  have HG := Lib.hid hg
  clear hg hmk
  go_loopw [11] (fun i wr => ∃ (k : Nat) (vs : List Value), k ≤ n ∧ i = .int .i64 k ∧ Own 25 wr g (.slice (some ⟨g, 0, none⟩) n n) 1 encV vs ∧ vs.length = n ∧ Fb w wr []) (fun i _ => n - (intOf i).toNat)
  case atStart => exact ⟨0, _, Nat.zero_le _, rfl, hO, by simp, hF⟩
  case round =>
    clear hO hF
    obtain ⟨k, vs, hk, rfl, hO, hvs, hF⟩ := hrel
    by_cases hlt : k < n
    · obtain ⟨b1, p1, rfl⟩ := GLs.adr HW.out (by omega)
      obtain ⟨P, hP⟩ := get_of hn.out hlt
      obtain ⟨a1, m1, c1, e1, i1, -, -, -⟩ := GLs.atI HW.out hP
      have x1 := hF.old e1
      have hp := Rows.below i1 hF.kp
      have hpl := Lib.hid (HR.out P (List.mem_of_getElem? hP))
      clear e1 i1 hP
      go_wp2_with fail
      refine (CloneZ_any _ P _ hp hpl.out).mono ?_; rintro e w2 ⟨v2, rfl, hO2, hb2⟩
      obtain ⟨a2, c2, rfl⟩ := hO2.sl
      replace hF := hF.below hb2
      replace hO := hO.below hb2
      obtain ⟨y, hy⟩ := get_of hvs hlt
      have cy := OwnV.cell hO hy
      have ly := OwnV.live hO k
      have hO3 := OwnV.set hO k (.slice a2 P.length c2)
      have hF3 := hF.setAway ⟨g, k, none⟩ (.slice a2 P.length c2) (by dsimp only; have := HG.out; omega) (by simp)
      have hv3 : (vs.set k (.slice a2 P.length c2)).length = n := by simp [hvs]
      clear hO hF hy hb2 hO2 hp x1
      go_wp2
      go_roundw
      case rel => exact ⟨k + 1, _, by omega, by go_num, hO3, hv3, hF3⟩
      case measure => simp [intOf]; omega
    · go_wp2
      go_ret
      exact ⟨_, _, _, rfl, hF.kp⟩
theorem leads_iff {M : List (List Int)} {home h x y : Int} {P : List Int} {n : Nat} (hn : P.length = n) (h0 : 0 < n) (hx : P[0]? = some x) (hy : P[n - 1]? = some y) : LeadsP M home P h ↔ (POk P ∧ x = h ∧ y = home) ∧ ∀ j, j < n → WStep M P j := by
  unfold LeadsP
  have e1 : P.getD 0 0 = x := by simp [List.getD, hx]
  have e2 : P.getD (P.length - 1) 0 = y := by rw [hn]; simp [List.getD, hy]
  rw [e1, e2, hn]
set_option maxHeartbeats 4000000 in
theorem leads_any (q b m2 c2 : Nat) (a2 : Option Addr) (pv : Value) (M : List (List Int)) (home h : Int) (P : List Int) (a : Addr) (w : World) (hR : RelsP M) (hK : Kn w M b) (c0 : w.cell? ⟨q, 0, none⟩ = some (.int .i64 M.length)) (c1 : w.cell? ⟨q, 1, none⟩ = some (.map (some b))) (ch : w.cell? ⟨q, 2, none⟩ = some (.int .i64 home)) (hp : Ints w pv P) (h0 : 0 < P.length) (hE : EPath w a) :
    Calls Tryd.prog 103 #[.pointer (some ⟨q, 0, none⟩), pv, .int .i64 h] w fun e w' => e = .returned (.bool (decide (LeadsP M home P h))) ∧ Below w.heap.size w w' := by
  have hF := Fb.start w
  obtain ⟨bo, m, cap2, rfl, hm, hmc, hcap2⟩ := Ints.sl hp
  have hm0 : 0 < m := by have := hm.out; omega
  obtain ⟨b5, off, rfl⟩ := Ints.some hp hm0
  obtain ⟨x, hx⟩ := get_of hm.out hm0
  obtain ⟨y, hy⟩ := get_of hm.out (show m - 1 < m by omega)
  have hi := Lib.hid (leads_iff (M := M) (home := home) (h := h) hm.out hm0 hx hy)
  have d0 := Ints.get hp hx
  have d1 := Ints.get hp hy
  simp only [Nat.add_zero] at d0
  obtain ⟨n, hnn⟩ : ∃ n, Hid (M.length = n) := ⟨_, rfl⟩
  rw [hnn.out] at c0
  have HR := Lib.hid hR
  have HK := Lib.hid hK
  have HP := Lib.hid hp
  have HE := Lib.hid hE
  have HC := Lib.hid (⟨c0, c1, ch⟩ : w.cell? ⟨q, 0, none⟩ = some (.int .i64 n) ∧ w.cell? ⟨q, 1, none⟩ = some (.map (some b)) ∧ w.cell? ⟨q, 2, none⟩ = some (.int .i64 home))
  have z0 := fun z : Cl w.heap.size w => z.cell d0
  have z1 := fun z : Cl w.heap.size w => z.cell d1
  have z2 := fun z : Cl w.heap.size w => z.cell ch
  have k1 : ((m : Int) - 1).toNat = m - 1 := by omega
  have k2 : IntKind.i64.wrap ((m : Int) - 1) = (m : Int) - 1 := IntWalk.i64_in _ (by omega)
  have k3 : (1 : Int) ≤ (m : Int) := by omega
  have k4 : (m : Int) - 1 < (m : Int) := by omega
  have k7 : (0 : Int) ≤ (m : Int) - 1 := by omega
  have k8 : (0 : Int) < (m : Int) := by omega
  clear hR hK hp hE c0 c1 ch hx hy d0 d1 h0
  have hPO := fun z : Cl w.heap.size w => iPathOk_any _ P a z.W (Rows.below HP.out z.below) (HE.out.below z.below)
  go_enter Tryd.func103, Tryd.ntmps103
  by_cases q1 : POk P
  · have cPO := Lib.hid (fun z : Cl w.heap.size w => (show Calls Tryd.prog 57 #[.slice (some ⟨b5, off, none⟩) m cap2] z.W fun e w' => e = .returned (.bool true) ∧ Below z.W.heap.size z.W w' from by have := hPO z; rwa [decide_eq_true q1] at this))
    clear hPO
    by_cases q2 : x = h
    · have d2 : (x != h) = false := by simp [q2]
      by_cases q3 : y = home
      · have d3 : (y != home) = false := by simp [q3]
        have hA := Lib.hid (show POk P ∧ x = h ∧ y = home from ⟨q1, q2, q3⟩)
        have hp5 := Lib.hid q1.1
        clear q1 q2 q3
        go_wp2
        first | refine wp_region_new (by kernel_rfl) (by kernel_rfl) ?_ | refine wp_region_lex ?_
        repeat (any_goals (first | go_big_quiet_step (((go_at_call 57; exact Calls.cl (cPO.out _)))) | (refine wpQuiet_step (fun K hK => ?_); go_simp; split <;> (rename_i hg; refine hK _ ?_; clear hK K; simp only [hg, decide_true, decide_false]))))
        all_goals (refine wpQuiet_nil ?_; intro x)
        obtain ⟨w1, hb1⟩ := x
        replace hF := hF.below hb1
        dsimp only
        clear z0 z1 z2 cPO hb1
        go_wp2
        go_loopw [34] (fun i wr => ∃ k : Nat, k ≤ m ∧ i = .int .i64 k ∧ Hid (∀ j, j < k → WStep M P j) ∧ Fb w wr []) (fun i _ => m - (intOf i).toNat)
        case atStart => exact ⟨0, Nat.zero_le _, rfl, fun j hj => (by omega), hF⟩
        case round =>
          clear hF
          obtain ⟨k, hk, rfl, ht, hF⟩ := hrel
          by_cases hlt : k < m
          · obtain ⟨y1, hy1⟩ := get_of hm.out hlt
            have HY := Lib.hid hy1
            have ey := hF.old (Ints.get HP.out hy1)
            have yb := hp5.out y1 (List.mem_of_getElem? hy1)
            have yb1 : -1000000 ≤ y1 := by unfold Bts at yb; omega
            have yb2 : y1 ≤ 1000000 := by unfold Bts at yb; omega
            have u0 := fun z : Cl wr.heap.size wr => Cl.old hF z HC.out.1
            have u1 := fun z : Cl wr.heap.size wr => Cl.old hF z HC.out.2.1
            clear hy1 yb
            by_cases hb : Bts y1 1 n
            · have db : Hid (∀ z : Cl wr.heap.size wr, Calls Tryd.prog 67 #[.agg #[.int .i64 n, .map (some b)], .int .i64 y1] z.W fun e w' => e = .returned (.bool true) ∧ Below z.W.heap.size z.W w') := fun z => by
                have := rhas_any (n : Int) y1 (.map (some b)) z.W rfl; rwa [decide_eq_true hb] at this
              have hbl : Hid (Bts y1 1 M.length) := by show Bts _ _ _; rw [hnn.out]; exact hb
              clear hb
              by_cases hk0 : k = 0
              · subst hk0
                have hA : Hid (∀ j, j < 0 + 1 → WStep M P j) := wstep_go ht.out ((wstep_0 HY.out).2 hbl.out)
                simp only [Nat.add_zero] at ey
                go_wp2
                first | refine wp_region_new (by kernel_rfl) (by kernel_rfl) ?_ | refine wp_region_lex ?_
                repeat (any_goals (first | go_big_quiet_step (((go_at_call 67; exact Calls.cl (db.out _)))) | (refine wpQuiet_step (fun K hK => ?_); go_simp; split <;> (rename_i hg; refine hK _ ?_; clear hK K; simp only [hg, decide_true, decide_false]))))
                all_goals (refine wpQuiet_nil ?_; intro x)
                go_wp2
                go_roundw
                case rel => exact ⟨1, by omega, by go_num, hA, hF.cl ‹_›⟩
                case measure => simp [intOf]; omega
              · obtain ⟨x1, hx1⟩ := get_of hm.out (show k - 1 < m by omega)
                have HX := Lib.hid hx1
                have ex := Ints.get HP.out hx1
                have xx := fun z : Cl wr.heap.size wr => Cl.old hF z ex
                have xb := hp5.out x1 (List.mem_of_getElem? hx1)
                have xb1 : -1000000 ≤ x1 := by unfold Bts at xb; omega
                have xb2 : x1 ≤ 1000000 := by unfold Bts at xb; omega
                obtain ⟨z0, hz0⟩ : ∃ z0, relof M x1 y1 = z0 := ⟨_, rfl⟩
                have dO : Hid (∀ z : Cl wr.heap.size wr, Calls Tryd.prog 117 #[.agg #[.int .i64 n, .map (some b)], .int .i64 x1, .int .i64 y1] z.W fun e w' => e = .returned (.int .i64 z0) ∧ Below z.W.heap.size z.W w') := fun z => by
                  have := of_any M (n : Int) b x1 y1 z.W HR.out (HK.out.below (hF.cl z).kp) xb1 xb2 yb1 yb2
                  rwa [hz0] at this
                have HZ := Lib.hid hz0
                have k1 : ((k : Int) - 1).toNat = k - 1 := by omega
                have k2 : IntKind.i64.wrap ((k : Int) - 1) = (k : Int) - 1 := IntWalk.i64_in _ (by omega)
                have k3 : (1 : Int) ≤ (k : Int) := by omega
                have k4 : (k : Int) - 1 < (m : Int) := by omega
                have k5 : decide (0 < (k : Int)) = true := decide_eq_true (by omega)
                have k6 : decide (0 < k) = true := decide_eq_true (by omega)
                have k7 : (0 : Int) ≤ (k : Int) - 1 := by omega
                clear hx1 ex xb xb1 xb2 yb1 yb2 hz0
                by_cases hzz : z0 = 0
                · subst hzz
                  have hr : Hid (decide (LeadsP M home P h) = false) := decide_eq_false (fun g => ((wstep_s (by omega) HX.out HY.out).1 ((hi.out.1 g).2 k hlt)).2 HZ.out)
                  go_wp2
                  first | refine wp_region_new (by kernel_rfl) (by kernel_rfl) ?_ | refine wp_region_lex ?_
                  repeat (any_goals (first | go_big_quiet_step ((first | (go_at_call 67; exact Calls.cl (db.out _)) | (go_at_call 117; exact Calls.cl (dO.out _)))) | (refine wpQuiet_step (fun K hK => ?_); go_simp; split <;> (rename_i hg; refine hK _ ?_; clear hK K; simp only [hg, decide_true, decide_false]))))
                  all_goals (refine wpQuiet_nil ?_; intro x)
                  go_wp2
                  go_ret
                  exact ⟨by rw [hr.out]; rfl, (hF.cl ‹_›).kp⟩
                · have dz : (z0 == 0) = false := by simp [hzz]
                  have hA2 : Hid (∀ j, j < k + 1 → WStep M P j) := wstep_go ht.out ((wstep_s (by omega) HX.out HY.out).2 ⟨hbl.out, by rw [HZ.out]; exact hzz⟩)
                  clear hzz
                  go_wp2
                  first | refine wp_region_new (by kernel_rfl) (by kernel_rfl) ?_ | refine wp_region_lex ?_
                  repeat (any_goals (first | go_big_quiet_step ((first | (go_at_call 67; exact Calls.cl (db.out _)) | (go_at_call 117; exact Calls.cl (dO.out _)))) | (refine wpQuiet_step (fun K hK => ?_); go_simp; split <;> (rename_i hg; refine hK _ ?_; clear hK K; simp only [hg, decide_true, decide_false]))))
                  all_goals (refine wpQuiet_nil ?_; intro x)
                  go_wp2
                  go_roundw
                  case rel => exact ⟨k + 1, by omega, by go_num, hA2, hF.cl ‹_›⟩
                  case measure => simp [intOf]; omega
            · have db : Hid (∀ z : Cl wr.heap.size wr, Calls Tryd.prog 67 #[.agg #[.int .i64 n, .map (some b)], .int .i64 y1] z.W fun e w' => e = .returned (.bool false) ∧ Below z.W.heap.size z.W w') := fun z => by
                have := rhas_any (n : Int) y1 (.map (some b)) z.W rfl; rwa [decide_eq_false hb] at this
              have hr : Hid (decide (LeadsP M home P h) = false) := decide_eq_false (fun g => (wstep_b HY.out (by rw [hnn.out]; exact hb)) ((hi.out.1 g).2 k hlt))
              clear hb
              go_wp2
              first | refine wp_region_new (by kernel_rfl) (by kernel_rfl) ?_ | refine wp_region_lex ?_
              repeat (any_goals (first | go_big_quiet_step (((go_at_call 67; exact Calls.cl (db.out _)))) | (refine wpQuiet_step (fun K hK => ?_); go_simp; split <;> (rename_i hg; refine hK _ ?_; clear hK K; simp only [hg, decide_true, decide_false]))))
              all_goals (refine wpQuiet_nil ?_; intro x)
              go_wp2
              go_ret
              exact ⟨by rw [hr.out]; rfl, (hF.cl ‹_›).kp⟩
          · have hr : Hid (decide (LeadsP M home P h) = true) := decide_eq_true (hi.out.2 ⟨hA.out, fun j hj => ht.out j (by omega)⟩)
            go_wp2
            go_ret
            exact ⟨by rw [hr.out]; rfl, hF.kp⟩
      · have d3 : (y != home) = true := by simp [q3]
        have hr : Hid (decide (LeadsP M home P h) = false) := decide_eq_false (fun g => q3 (hi.out.1 g).1.2.2)
        clear q1 q2 q3
        go_wp2
        first | refine wp_region_new (by kernel_rfl) (by kernel_rfl) ?_ | refine wp_region_lex ?_
        repeat (any_goals (first | go_big_quiet_step (((go_at_call 57; exact Calls.cl (cPO.out _)))) | (refine wpQuiet_step (fun K hK => ?_); go_simp; split <;> (rename_i hg; refine hK _ ?_; clear hK K; simp only [hg, decide_true, decide_false]))))
        all_goals (refine wpQuiet_nil ?_; intro x)
        go_wp2
        go_ret
        exact ⟨by rw [hr.out]; rfl, (hF.cl ‹_›).kp⟩
    · have d2 : (x != h) = true := by simp [q2]
      have hr : Hid (decide (LeadsP M home P h) = false) := decide_eq_false (fun g => q2 (hi.out.1 g).1.2.1)
      clear q1 q2
      go_wp2
      first | refine wp_region_new (by kernel_rfl) (by kernel_rfl) ?_ | refine wp_region_lex ?_
      repeat (any_goals (first | go_big_quiet_step (((go_at_call 57; exact Calls.cl (cPO.out _)))) | (refine wpQuiet_step (fun K hK => ?_); go_simp; split <;> (rename_i hg; refine hK _ ?_; clear hK K; simp only [hg, decide_true, decide_false]))))
      all_goals (refine wpQuiet_nil ?_; intro x)
      go_wp2
      go_ret
      exact ⟨by rw [hr.out]; rfl, (hF.cl ‹_›).kp⟩
  · have cPO := Lib.hid (fun z : Cl w.heap.size w => (show Calls Tryd.prog 57 #[.slice (some ⟨b5, off, none⟩) m cap2] z.W fun e w' => e = .returned (.bool false) ∧ Below z.W.heap.size z.W w' from by have := hPO z; rwa [decide_eq_false q1] at this))
    have hr : Hid (decide (LeadsP M home P h) = false) := decide_eq_false (fun g => q1 (hi.out.1 g).1.1)
    clear hPO q1
    go_wp2
    first | refine wp_region_new (by kernel_rfl) (by kernel_rfl) ?_ | refine wp_region_lex ?_
    repeat (any_goals (first | go_big_quiet_step (((go_at_call 57; exact Calls.cl (cPO.out _)))) | (refine wpQuiet_step (fun K hK => ?_); go_simp; split <;> (rename_i hg; refine hK _ ?_; clear hK K; simp only [hg, decide_true, decide_false]))))
    all_goals (refine wpQuiet_nil ?_; intro x)
    go_wp2
    go_ret
    exact ⟨by rw [hr.out]; rfl, (hF.cl ‹_›).kp⟩
end Go.Proofs.YtonojegnbcgnaaaDoor
