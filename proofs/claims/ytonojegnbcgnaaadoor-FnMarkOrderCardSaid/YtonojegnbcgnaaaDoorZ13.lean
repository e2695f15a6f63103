/- Rows of numbers: where a number stands in an ascending row (the library's BinarySearch). append of a whole slice onto an owned row, at a step of a region that draws its order. append of any slice, nil or not, onto an owned row. -/
import Derived.Test.YtonojegnbcgnaaaDoorZ12
import Derived.Test.YtonojegnbcgnaaaDoorZ6
import Derived.Test.YtonojegnbcgnaaaDoorZ4
import Derived.Deep.RegionHeldLaw
import Derived.Deep.RegionLaw
import Derived.Deep.AppendLies
set_option linter.unusedSimpArgs false
set_option linter.unusedVariables false
namespace Go.Proofs.YtonojegnbcgnaaaDoor
open Go.RowKit

theorem sNaN_any (a : Int) (w : World) : Calls Tryd.prog 82 #[.int .i64 a] w fun e w' => e = .returned (.bool false) ∧ Below w.heap.size w w' := by
  go_enter Tryd.func82, Tryd.ntmps82
  go_wp2
  go_ret
  exact ⟨by simp, Below.refl _ _⟩
theorem less_any (a b : Int) (w : World) : Calls Tryd.prog 81 #[.int .i64 a, .int .i64 b] w fun e w' => e = .returned (.bool (decide (a < b))) ∧ Below w.heap.size w w' := by
  go_enter Tryd.func81, Tryd.ntmps81
  go_wp2_with (go_at_call 88; refine (isNaN_any _ _).mono ?_; rintro e wx ⟨rfl, rfl⟩)
  go_ret
  exact ⟨rfl, Below.refl _ _⟩
/-- All ahead of i are less than m, and none from j on is. -/
structure BsI (T : List Int) (m : Int) (i j : Nat) : Prop where
  lo : ∀ q x, q < i → T[q]? = some x → x < m
  hi : ∀ q x, j ≤ q → T[q]? = some x → m ≤ x
theorem bsi_up {T : List Int} {m : Int} {i j h : Nat} {x : Int} (hT : T.Pairwise (· < ·)) (hb : BsI T m i j) (hx : T[h]? = some x) (hc : x < m) : BsI T m (h + 1) j :=
  ⟨fun q y hq hy => by
    by_cases e1 : q = h
    · subst e1; rw [hx] at hy; injection hy with hy; subst hy; exact hc
    · obtain ⟨l1, v1⟩ := List.getElem?_eq_some_iff.1 hy
      obtain ⟨l2, v2⟩ := List.getElem?_eq_some_iff.1 hx
      have := List.pairwise_iff_getElem.1 hT q h l1 l2 (by omega)
      rw [v1, v2] at this
      omega, hb.hi⟩
theorem bsi_dn {T : List Int} {m : Int} {i j h : Nat} {x : Int} (hT : T.Pairwise (· < ·)) (hb : BsI T m i j) (hx : T[h]? = some x) (hc : m ≤ x) : BsI T m i h :=
  ⟨hb.lo, fun q y hq hy => by
    by_cases e1 : q = h
    · subst e1; rw [hx] at hy; injection hy with hy; subst hy; exact hc
    · obtain ⟨l1, v1⟩ := List.getElem?_eq_some_iff.1 hy
      obtain ⟨l2, v2⟩ := List.getElem?_eq_some_iff.1 hx
      have := List.pairwise_iff_getElem.1 hT h q l2 l1 (by omega)
      rw [v1, v2] at this
      omega⟩
theorem bsi_start (T : List Int) (m : Int) {n : Nat} (hn : T.length = n) : BsI T m 0 n :=
  ⟨fun q x h => by omega, fun q x h hx => by have := (List.getElem?_eq_some_iff.1 hx).1; omega⟩
theorem bsi_take {T : List Int} {m : Int} {i : Nat} (h : BsI T m i i) : ∀ x ∈ T.take i, x < m := fun x hx => by
  obtain ⟨q, hq⟩ := List.mem_iff_getElem?.1 hx
  rw [List.getElem?_take] at hq
  split at hq
  · exact h.lo q x (by assumption) hq
  · cases hq
theorem bsi_drop {T : List Int} {m : Int} {i : Nat} (h : BsI T m i i) : ∀ x ∈ T.drop i, m ≤ x := fun x hx => by
  obtain ⟨q, hq⟩ := List.mem_iff_getElem?.1 hx
  rw [List.getElem?_drop] at hq
  exact h.hi _ x (by omega) hq
theorem bsi_mem {T : List Int} {m : Int} {i : Nat} (h : BsI T m i i) (hT : T.Pairwise (· < ·)) : m ∈ T ↔ T[i]? = some m := by
  constructor
  · intro hm
    obtain ⟨q, hq⟩ := List.mem_iff_getElem?.1 hm
    by_cases h1 : q < i
    · have := h.lo q m h1 hq; omega
    · by_cases h2 : q = i
      · rw [← h2]; exact hq
      · obtain ⟨l1, v1⟩ := List.getElem?_eq_some_iff.1 hq
        have := List.pairwise_iff_getElem.1 hT i q (by omega) l1 (by omega)
        have h3 := h.hi i T[i] (Nat.le_refl _) (List.getElem?_eq_getElem (by omega))
        omega
  · exact fun hq => List.mem_of_getElem? hq
set_option maxRecDepth 100000 in
set_option maxHeartbeats 2000000 in
theorem searchI_any (v : Value) (T : List Int) (m : Int) (w : World) (hv : Ints w v T) (hT : T.Pairwise (· < ·)) (hl : T.length ≤ 1000) :
    Calls Tryd.prog 44 #[v, .int .i64 m] w fun e w' => ∃ (k : Nat), e = .returned (.tuple #[.int .i64 k, .bool (decide (m ∈ T))]) ∧ k ≤ T.length ∧ BsI T m k k ∧ Below w.heap.size w w' := by
  have hF := Fb.start w
  have hS := Lib.hid hT
  obtain ⟨ao, n, cap, rfl, hn, hnc, hcap⟩ := hv.sl
  have hn12 : n ≤ 1000 := by have := hn.out; omega
  have HV := Lib.hid hv
  clear hT hv hl
  go_enter Tryd.func44, Tryd.ntmps44
  go_wp2
  go_loopw [7, 8] (fun s9 s10 wr => ∃ i j : Nat, s9 = .int .i64 i ∧ s10 = .int .i64 j ∧ i ≤ j ∧ j ≤ n ∧ Hid (BsI T m i j) ∧ Fb w wr []) (fun s9 s10 _ => (intOf s10 - intOf s9).toNat)
  case atStart => exact ⟨0, n, rfl, rfl, by omega, Nat.le_refl _, bsi_start T _ hn.out, hF⟩
  case round =>
    clear hF
    obtain ⟨i, j, rfl, rfl, hij, hjn, hb, hF⟩ := hrel
    by_cases hlt : i < j
    · obtain ⟨b0, off, rfl⟩ := Ints.some HV.out (by omega)
      obtain ⟨h, h1, h2⟩ : ∃ h : Nat, 2 * h ≤ i + j ∧ i + j ≤ 2 * h + 1 := ⟨(i + j) / 2, by omega, by omega⟩
      have hhn : h < n := by omega
      have hh : ((i : Int) + (j : Int)) / 2 = (h : Int) := by omega
      obtain ⟨y, hy⟩ := get_of hn.out hhn
      have c0 := hF.old (Ints.get HV.out hy)
      have HY := Lib.hid hy
      clear hy
      by_cases hC : y < m
      · have dC : decide (y < m) = true := by simp [hC]
        have hb2 := Lib.hid (bsi_up hS.out hb.out HY.out hC)
        clear hC
        go_wp2_with (first | (go_at_call 81; refine (less_any _ _ _).mono ?_; rintro e wx ⟨rfl, hbx⟩; replace hF := hF.below hbx; clear hbx) | (go_at_call 82; refine (sNaN_any _ _).mono ?_; rintro e wx ⟨rfl, hbx⟩; replace hF := hF.below hbx; clear hbx))
        go_roundw
        case rel => exact ⟨h + 1, j, by go_num, rfl, by omega, hjn, hb2, hF⟩
        case measure => simp [intOf]; omega
      · have dC : decide (y < m) = false := by simp; omega
        have hb2 := Lib.hid (bsi_dn hS.out hb.out HY.out (by omega))
        clear hC
        go_wp2_with (first | (go_at_call 81; refine (less_any _ _ _).mono ?_; rintro e wx ⟨rfl, hbx⟩; replace hF := hF.below hbx; clear hbx) | (go_at_call 82; refine (sNaN_any _ _).mono ?_; rintro e wx ⟨rfl, hbx⟩; replace hF := hF.below hbx; clear hbx))
        go_roundw
        case rel => exact ⟨i, h, rfl, by go_num, by omega, by omega, hb2, hF⟩
        case measure => simp [intOf]; omega
    · obtain rfl : i = j := by omega
      by_cases hin : i < n
      · obtain ⟨b0, off, rfl⟩ := Ints.some HV.out (by omega)
        have d1 : decide ((i : Int) < (n : Int)) = true := by simp; omega
        have d1' : decide (i < n) = true := by simp [hin]
        obtain ⟨y, hy⟩ := get_of hn.out hin
        have c0 := hF.old (Ints.get HV.out hy)
        have hiff : Hid (m ∈ T ↔ y = m) := by
          show _ ↔ _
          rw [bsi_mem hb.out hS.out, hy]; simp
        clear hy
        by_cases hym : y = m
        · have hr : Hid (decide (m ∈ T) = true) := decide_eq_true (hiff.out.2 hym)
          clear hiff
          subst hym
          go_wp2_with (first | (go_at_call 81; refine (less_any _ _ _).mono ?_; rintro e wx ⟨rfl, hbx⟩; replace hF := hF.below hbx; clear hbx) | (go_at_call 82; refine (sNaN_any _ _).mono ?_; rintro e wx ⟨rfl, hbx⟩; replace hF := hF.below hbx; clear hbx))
          go_ret2
          exact ⟨i, by rw [hr.out]; rfl, by rw [hn.out]; omega, hb.out, hF.kp⟩
        · have dy : (y == m) = false := by simp [hym]
          have hr : Hid (decide (m ∈ T) = false) := decide_eq_false (fun g => hym (hiff.out.1 g))
          clear hiff hym
          go_wp2_with (first | (go_at_call 81; refine (less_any _ _ _).mono ?_; rintro e wx ⟨rfl, hbx⟩; replace hF := hF.below hbx; clear hbx) | (go_at_call 82; refine (sNaN_any _ _).mono ?_; rintro e wx ⟨rfl, hbx⟩; replace hF := hF.below hbx; clear hbx))
          go_ret2
          exact ⟨i, by rw [hr.out]; rfl, by rw [hn.out]; omega, hb.out, hF.kp⟩
      · have d1 : decide ((i : Int) < (n : Int)) = false := by simp; omega
        have d1' : decide (i < n) = false := by simp; omega
        have hiff : Hid (false = true ↔ m ∈ T) := by
          show _ ↔ _
          rw [bsi_mem hb.out hS.out, List.getElem?_eq_none (by rw [hn.out]; omega)]; simp
        have hr : Hid (decide (m ∈ T) = false) := decide_eq_false (fun g => by have := hiff.out.2 g; cases this)
        clear hiff
        go_wp2_with (first | (go_at_call 81; refine (less_any _ _ _).mono ?_; rintro e wx ⟨rfl, hbx⟩; replace hF := hF.below hbx; clear hbx) | (go_at_call 82; refine (sNaN_any _ _).mono ?_; rintro e wx ⟨rfl, hbx⟩; replace hF := hF.below hbx; clear hbx))
        go_ret2
        exact ⟨i, by rw [hr.out]; rfl, by rw [hn.out]; omega, hb.out, hF.kp⟩
end Go.Proofs.YtonojegnbcgnaaaDoor
set_option linter.unusedSimpArgs false
set_option linter.unusedVariables false
namespace Go.Proofs.YtonojegnbcgnaaaDoor
open Go Go.RowKit

theorem step_appsM {α : Type} {P : Program} {ops : Array Oper} {o : Oper} {a : Act} {w : World} {K : Act → World → Prop} {Q : Exit → Act → World → Prop} {F : Prop} (hw : Region.wanted o (yielded ops a.tmps) = true) (s x : Operand) (t : TypeId)
    (ho : o.op = .call { callee := .builtin .append, args := #[s, x], argTypes := #[t, t] })
    (E : TypeId) (z : Value) (sz bytes : Nat) (ht : P.underlying t = some (.slice E)) (hI : (P.info? E).map (fun i => (i.zero, i.size, i.bytes)) = some (some z, sz, bytes)) (hzs : z.cells.size = sz) (hsz : 0 < sz) (hby : bytes ≤ 1000)
    (B : Nat) (enc : α → List Value) (hen : ∀ x, (enc x).length = sz) (v : Value) (L : List α) (hs : a.eval s = v) (hown : Own E w B v sz enc L)
    (b off m c : Nat) (K2 : List α) (hone : ∀ x ∈ K2, ∀ u ∈ enc x, u.oneCell' = true) (hx : a.eval x = .slice (some ⟨b, off, none⟩) m c) (hK : Rows w (.slice (some ⟨b, off, none⟩) m c) sz enc K2)
    (hlen : L.length + m ≤ 1000000) (hB : B ≤ w.heap.size)
    (h : ∀ v' w', Own E w' B v' sz enc (L ++ K2) → w.grownBy w' v.ownBlock → Below B w w' → Frsh w v v' → K (a.put o.dst v') w') : if Region.wanted o (yielded ops a.tmps) = true then Oper.wp P o a w K Q else F := by
  rw [if_pos hw]
  obtain ⟨i, hi, hz, hsize, hbytes⟩ := info_parts hI
  have hKm : K2.length = m := by
    obtain ⟨ao, cap, e, _⟩ := hK.ex
    injection e with _ e; exact e.symm
  have hm : L.length + m ≤ maxLen := by unfold maxLen; omega
  have hb : (L.length + m) * bytes ≤ 140737488355328 := Nat.le_trans (Nat.mul_le_mul (show L.length + m ≤ 1000001 by omega) hby) (by omega)
  have hfl : (K2.flatMap enc).length = m * sz := by rw [flat_len hen, hKm]
  have hone' : ∀ u ∈ K2.flatMap enc, u.oneCell' = true := fun u hu => by
    obtain ⟨y, hy1, hy⟩ := List.mem_flatMap.1 hu
    exact hone y hy1 u hy
  obtain ⟨v', w', hr, h2, h3, h4⟩ := run_append_own (P := P) w B t o.type E i z sz bytes ht hi hz hsize hbytes hzs hsz v L.length (L.flatMap enc) hown ⟨b, off, none⟩ m c (K2.flatMap enc) hfl (rows_flat hK hen) hone' hm hb hB
  have hf := append_block0 (P := P) (w := w) B t o.type E i z sz bytes ht hi hz hsize hbytes v L.length (L.flatMap enc) hown ⟨b, off, none⟩ m c (K2.flatMap enc) hfl (rows_flat hK hen) hone' hm hb hr
  unfold Oper.wp execOp
  simp only [ho, resolve, invoke, builtin, Sem.run_bind, Sem.run_pure, Result.andThen_ok, List.map_toArray, List.map_cons, List.map_nil, hs, hx, hr]
  exact h v' w' (by unfold Own; rw [List.length_append, List.flatMap_append, hKm]; exact h2) h3 (own_grown hown h3 hB) hf
theorem step_apps {α : Type} {P : Program} {ops : Array Oper} {o : Oper} {a : Act} {w : World} {K : Act → World → Prop} {Q : Exit → Act → World → Prop} {F : Prop} (hw : Region.wanted o (yielded ops a.tmps) = true) (s x : Operand) (t : TypeId)
    (ho : o.op = .call { callee := .builtin .append, args := #[s, x], argTypes := #[t, t] })
    (E : TypeId) (z : Value) (sz bytes : Nat) (ht : P.underlying t = some (.slice E)) (hI : (P.info? E).map (fun i => (i.zero, i.size, i.bytes)) = some (some z, sz, bytes)) (hzs : z.cells.size = sz) (hsz : 0 < sz) (hby : bytes ≤ 1000)
    (B : Nat) (enc : α → List Value) (hen : ∀ x, (enc x).length = sz) (hone : ∀ x, ∀ u ∈ enc x, u.oneCell' = true) (v : Value) (L : List α) (hs : a.eval s = v) (hown : Own E w B v sz enc L)
    (b off m c : Nat) (K2 : List α) (hx : a.eval x = .slice (some ⟨b, off, none⟩) m c) (hK : Rows w (.slice (some ⟨b, off, none⟩) m c) sz enc K2)
    (hlen : L.length + m ≤ 1000000) (hB : B ≤ w.heap.size)
    (h : ∀ v' w', Own E w' B v' sz enc (L ++ K2) → w.grownBy w' v.ownBlock → Below B w w' → Frsh w v v' → K (a.put o.dst v') w') : if Region.wanted o (yielded ops a.tmps) = true then Oper.wp P o a w K Q else F := by
  rw [if_pos hw]
  obtain ⟨i, hi, hz, hsize, hbytes⟩ := info_parts hI
  have hKm : K2.length = m := by
    obtain ⟨ao, cap, e, _⟩ := hK.ex
    injection e with _ e; exact e.symm
  have hm : L.length + m ≤ maxLen := by unfold maxLen; omega
  have hb : (L.length + m) * bytes ≤ 140737488355328 := Nat.le_trans (Nat.mul_le_mul (show L.length + m ≤ 1000001 by omega) hby) (by omega)
  have hfl : (K2.flatMap enc).length = m * sz := by rw [flat_len hen, hKm]
  have hone' : ∀ u ∈ K2.flatMap enc, u.oneCell' = true := fun u hu => by
    obtain ⟨y, _, hy⟩ := List.mem_flatMap.1 hu
    exact hone y u hy
  obtain ⟨v', w', hr, h2, h3, h4⟩ := run_append_own (P := P) w B t o.type E i z sz bytes ht hi hz hsize hbytes hzs hsz v L.length (L.flatMap enc) hown ⟨b, off, none⟩ m c (K2.flatMap enc) hfl (rows_flat hK hen) hone' hm hb hB
  have hf := append_block0 (P := P) (w := w) B t o.type E i z sz bytes ht hi hz hsize hbytes v L.length (L.flatMap enc) hown ⟨b, off, none⟩ m c (K2.flatMap enc) hfl (rows_flat hK hen) hone' hm hb hr
  unfold Oper.wp execOp
  simp only [ho, resolve, invoke, builtin, Sem.run_bind, Sem.run_pure, Result.andThen_ok, List.map_toArray, List.map_cons, List.map_nil, hs, hx, hr]
  exact h v' w' (by unfold Own; rw [List.length_append, List.flatMap_append, hKm]; exact h2) h3 (own_grown hown h3 hB) hf
theorem step_app1 {α : Type} {P : Program} {ops : Array Oper} {o : Oper} {a : Act} {w : World} {K : Act → World → Prop} {Q : Exit → Act → World → Prop} {F : Prop} (hw : Region.wanted o (yielded ops a.tmps) = true) (s x : Operand) (t : TypeId)
    (ho : o.op = .call { callee := .builtin .append, args := #[s, x], argTypes := #[t, t] })
    (E : TypeId) (z : Value) (sz bytes : Nat) (ht : P.underlying t = some (.slice E)) (hI : (P.info? E).map (fun i => (i.zero, i.size, i.bytes)) = some (some z, sz, bytes)) (hzs : z.cells.size = sz) (hsz : 0 < sz) (hby : bytes ≤ 1000)
    (B : Nat) (enc : α → List Value) (v : Value) (L : List α) (hs : a.eval s = v) (hown : Own E w B v sz enc L) (y : α)
    (ad : Addr) (c : Nat) (hx : a.eval x = .slice (some ad) 1 c) (hl : (enc y).length = sz) (hnews : ∀ j u, (enc y)[j]? = some u → w.cell? (ad.add j) = some u) (h1 : ∀ u ∈ enc y, u.oneCell' = true)
    (hlen : L.length ≤ 1000000) (hB : B ≤ w.heap.size)
    (h : ∀ v' w', Own E w' B v' sz enc (L ++ [y]) → w.grownBy w' v.ownBlock → Below B w w' → Frsh w v v' → K (a.put o.dst v') w') : if Region.wanted o (yielded ops a.tmps) = true then Oper.wp P o a w K Q else F := by
  rw [if_pos hw]
  obtain ⟨i, hi, hz, hsize, hbytes⟩ := info_parts hI
  have hm : L.length + 1 ≤ maxLen := by unfold maxLen; omega
  have hb : (L.length + 1) * bytes ≤ 140737488355328 := Nat.le_trans (Nat.mul_le_mul (show L.length + 1 ≤ 1000001 by omega) hby) (by omega)
  obtain ⟨v', w', hr, h2, h3, h4⟩ := run_append_own (P := P) w B t o.type E i z sz bytes ht hi hz hsize hbytes hzs hsz v L.length (L.flatMap enc) hown ad 1 c (enc y) (by omega) hnews h1 hm hb hB
  have hf := append_block (P := P) (w := w) B t o.type E i z sz bytes ht hi hz hsize hbytes v L.length (L.flatMap enc) hown ad 1 c (enc y) (by omega) hnews h1 hm hb (by omega) hr
  unfold Oper.wp execOp
  simp only [ho, resolve, invoke, builtin, Sem.run_bind, Sem.run_pure, Result.andThen_ok, List.map_toArray, List.map_cons, List.map_nil, hs, hx, hr]
  exact h v' w' (by unfold Own; rw [List.length_append, List.flatMap_append]; simpa using h2) h3 (own_grown hown h3 hB) hf
/-- A guarded operation that is wanted, in a region that goes in order. -/
theorem wpListG {P : Program} {ops : Array Oper} {rest : List Oper} {o : Oper} {a : Act} {w : World} {Q : Exit → Act → World → Prop} (hw : Region.wanted o (yielded ops a.tmps) = true)
    (h : if Region.wanted o (yielded ops a.tmps) = true then Oper.wp P o a w (wpList P ops Q rest) Q else True) : wpList P ops Q (o :: rest) a w := by
  rw [if_pos hw] at h
  unfold wpList
  rw [if_pos hw]
  exact Or.inl h
end Go.Proofs.YtonojegnbcgnaaaDoor
set_option linter.unusedSimpArgs false
set_option linter.unusedVariables false
namespace Go.Proofs.YtonojegnbcgnaaaDoor
open Go Go.RowKit

theorem run_app_none {P : Program} (w : World) (t ty E : TypeId) (i : TypeInfo) (ht : P.underlying t = some (.slice E)) (hi : P.info? E = some i) (base size n c : Nat) (v : Value) (xs : List Value) (h : w.ownsRow base E size v n xs) :
    (Builtin.append_ #[t, t] ty #[v, .slice none 0 c]).run P w = .ok v w := by
  obtain ⟨h1, ⟨rfl, h2⟩ | ⟨g, cap, cur, rfl, _, _, h4, _⟩⟩ := h
  · simp [Builtin.append_, run_underlying ht, sizeOf, typeInfo, hi, Builtin.lenOf, Builtin.firstCells]
  · simp [Builtin.append_, run_underlying ht, sizeOf, typeInfo, hi, Builtin.lenOf, Builtin.firstCells, storeCells, h4]
theorem run_appsZ {α : Type} {P : Program} {w : World} (t ty E : TypeId) (z : Value) (sz bytes : Nat) (ht : P.underlying t = some (.slice E)) (hI : (P.info? E).map (fun i => (i.zero, i.size, i.bytes)) = some (some z, sz, bytes)) (hzs : z.cells.size = sz) (hsz : 0 < sz) (hby : bytes ≤ 1000)
    (B : Nat) (enc : α → List Value) (hen : ∀ x, (enc x).length = sz) (v : Value) (L : List α) (hown : Own E w B v sz enc L)
    (xv : Value) (K : List α) (hone : ∀ x ∈ K, ∀ u ∈ enc x, u.oneCell' = true) (hK : Rows w xv sz enc K) (hlen : L.length + K.length ≤ 4000000) (hB : B ≤ w.heap.size) :
    ∃ v' w', (Builtin.append_ #[t, t] ty #[v, xv]).run P w = .ok v' w' ∧ Own E w' B v' sz enc (L ++ K) ∧ w.grownBy w' v.ownBlock ∧ Below B w w' ∧ Frsh w v v' := by
  obtain ⟨i, hi, hz, hsize, hbytes⟩ := info_parts hI
  obtain ⟨ao, cap, rfl, h1, h2, h3⟩ := hK.ex
  have hm : L.length + K.length ≤ maxLen := by unfold maxLen; omega
  have hb : (L.length + K.length) * bytes ≤ 140737488355328 := Nat.le_trans (Nat.mul_le_mul (show L.length + K.length ≤ 4000001 by omega) hby) (by omega)
  cases ao with
  | none =>
    have hk : K = [] := by
      cases K with
      | nil => rfl
      | cons y K => obtain ⟨b, off, e, _⟩ := h3 0 y rfl; cases e
    subst hk
    refine ⟨v, w, run_app_none w t ty E i ht hi B sz L.length cap v _ hown, by simpa using hown, ⟨rfl, rfl, rfl, Nat.le_refl _, fun _ _ _ => rfl⟩, Below.refl _ _, Or.inl rfl⟩
  | some ad =>
    have hfl : (K.flatMap enc).length = K.length * sz := flat_len hen K
    have hone' : ∀ u ∈ K.flatMap enc, u.oneCell' = true := fun u hu => by
      obtain ⟨y, hy1, hy⟩ := List.mem_flatMap.1 hu
      exact hone y hy1 u hy
    have hnews : ∀ j u, (K.flatMap enc)[j]? = some u → w.cell? (ad.add j) = some u := fun j u hj => by
      obtain ⟨k, x, q, hk, hq, e⟩ := flat_at hen K j u hj
      obtain ⟨b, off, e1, hc⟩ := h3 k x hk
      injection e1 with e1
      subst e1
      rw [addr_add', e, ← Nat.add_assoc]
      exact hc q u hq
    obtain ⟨v', w', hr, k2, k3, k4⟩ := run_append_own (P := P) w B t ty E i z sz bytes ht hi hz hsize hbytes hzs hsz v L.length (L.flatMap enc) hown ad K.length cap (K.flatMap enc) hfl hnews hone' hm hb hB
    have hf := append_block0 (P := P) (w := w) B t ty E i z sz bytes ht hi hz hsize hbytes v L.length (L.flatMap enc) hown ad K.length cap (K.flatMap enc) hfl hnews hone' hm hb hr
    exact ⟨v', w', hr, by unfold Own; rw [List.length_append, List.flatMap_append]; exact k2, k3, own_grown hown k3 hB, hf⟩
theorem step_appsZ {α : Type} {P : Program} {ops : Array Oper} {o : Oper} {a : Act} {w : World} {K : Act → World → Prop} {Q : Exit → Act → World → Prop} {F : Prop} (hw : Region.wanted o (yielded ops a.tmps) = true) (s x : Operand) (t : TypeId)
    (ho : o.op = .call { callee := .builtin .append, args := #[s, x], argTypes := #[t, t] })
    (E : TypeId) (z : Value) (sz bytes : Nat) (ht : P.underlying t = some (.slice E)) (hI : (P.info? E).map (fun i => (i.zero, i.size, i.bytes)) = some (some z, sz, bytes)) (hzs : z.cells.size = sz) (hsz : 0 < sz) (hby : bytes ≤ 1000)
    (B : Nat) (enc : α → List Value) (hen : ∀ x, (enc x).length = sz) (v : Value) (L : List α) (hs : a.eval s = v) (hown : Own E w B v sz enc L)
    (xv : Value) (K2 : List α) (hone : ∀ x ∈ K2, ∀ u ∈ enc x, u.oneCell' = true) (hx : a.eval x = xv) (hK : Rows w xv sz enc K2)
    (hlen : L.length + K2.length ≤ 4000000) (hB : B ≤ w.heap.size)
    (h : ∀ v' w', Own E w' B v' sz enc (L ++ K2) → w.grownBy w' v.ownBlock → Below B w w' → Frsh w v v' → K (a.put o.dst v') w') : if Region.wanted o (yielded ops a.tmps) = true then Oper.wp P o a w K Q else F := by
  rw [if_pos hw]
  obtain ⟨v', w', hr, h1, h2, h3, h4⟩ := run_appsZ (P := P) t o.type E z sz bytes ht hI hzs hsz hby B enc hen v L hown xv K2 hone hK hlen hB
  unfold Oper.wp execOp
  simp only [ho, resolve, invoke, builtin, Sem.run_bind, Sem.run_pure, Result.andThen_ok, List.map_toArray, List.map_cons, List.map_nil, hs, hx, hr]
  exact h v' w' h1 h2 h3 h4
theorem wpList_appsZ {α : Type} {P : Program} {ops : Array Oper} {rest : List Oper} {o : Oper} {a : Act} {w : World} {Q : Exit → Act → World → Prop} (hgd : o.guard = none) (s x : Operand) (t : TypeId)
    (ho : o.op = .call { callee := .builtin .append, args := #[s, x], argTypes := #[t, t] })
    (E : TypeId) (z : Value) (sz bytes : Nat) (ht : P.underlying t = some (.slice E)) (hI : (P.info? E).map (fun i => (i.zero, i.size, i.bytes)) = some (some z, sz, bytes)) (hzs : z.cells.size = sz) (hsz : 0 < sz) (hby : bytes ≤ 1000)
    (B : Nat) (enc : α → List Value) (hen : ∀ x, (enc x).length = sz) (v : Value) (L : List α) (hs : a.eval s = v) (hown : Own E w B v sz enc L)
    (xv : Value) (K2 : List α) (hone : ∀ x ∈ K2, ∀ u ∈ enc x, u.oneCell' = true) (hx : a.eval x = xv) (hK : Rows w xv sz enc K2)
    (hlen : L.length + K2.length ≤ 4000000) (hB : B ≤ w.heap.size)
    (h : ∀ v' w', Own E w' B v' sz enc (L ++ K2) → w.grownBy w' v.ownBlock → Below B w w' → Frsh w v v' → wpList P ops Q rest (a.put o.dst v') w') : wpList P ops Q (o :: rest) a w := by
  obtain ⟨v', w', hr, h1, h2, h3, h4⟩ := run_appsZ (P := P) t o.type E z sz bytes ht hI hzs hsz hby B enc hen v L hown xv K2 hone hK hlen hB
  refine wpList_plain hgd fun K hK => ?_
  unfold Oper.wp execOp
  simp only [ho, resolve, invoke, builtin, Sem.run_bind, Sem.run_pure, Result.andThen_ok, List.map_toArray, List.map_cons, List.map_nil, hs, hx, hr]
  exact hK _ _ (h v' w' h1 h2 h3 h4)
end Go.Proofs.YtonojegnbcgnaaaDoor
