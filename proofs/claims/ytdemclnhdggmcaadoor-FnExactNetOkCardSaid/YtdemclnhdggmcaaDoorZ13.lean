/- Exact laws: sizes, fresh copies, equality. Nets: a net that is read; NetOk of the program. FnExactNetOk: the walk. -/
import Derived.Test.YtdemclnhdggmcaaDoorZ12
import Derived.Deep.RegionHeld3
set_option linter.unusedSimpArgs false
set_option linter.unusedVariables false
namespace Go.Proofs.YtdemclnhdggmcaaDoor
open Go.RowKit Go.Maps Go.WideMaps

theorem flatI (L : List Int) : L.flatMap encI = L.map (Value.int .i64) := by induction L with
  | nil => rfl
  | cons x L ih => simp [List.flatMap_cons, encI, ih]
theorem OwnI.set {E : TypeId} {w : World} {B g n cap : Nat} {L : List Int} (h : Own E w B (.slice (some ⟨g, 0, none⟩) n cap) 1 encI L) (i : Nat) (x : Int) : Own E (w.setCell ⟨g, i, none⟩ (.int .i64 x)) B (.slice (some ⟨g, 0, none⟩) n cap) 1 encI (L.set i x) := by
  obtain ⟨ao, c, e⟩ := Own.sl h
  injection e with e1 e2 e3
  subst e2
  have := (World.ownsRow.stored h i (.int .i64 x)).1
  unfold Own
  rw [List.length_set, flatI, List.map_set, ← flatI]
  exact this
theorem OwnI.cell {E : TypeId} {w : World} {B g n cap : Nat} {L : List Int} (h : Own E w B (.slice (some ⟨g, 0, none⟩) n cap) 1 encI L) {i : Nat} {x : Int} (hx : L[i]? = some x) : w.cell? ⟨g, i, none⟩ = some (.int .i64 x) := by
  have := Rows.get (h.rows (fun _ => rfl)) hx (j := 0) rfl
  simpa using this
theorem OwnI.live {E : TypeId} {w : World} {B g n cap : Nat} {L : List Int} (h : Own E w B (.slice (some ⟨g, 0, none⟩) n cap) 1 encI L) (i : Nat) : w.frozen? ⟨g, i, none⟩ = false := by
  obtain ⟨ao, c, e⟩ := Own.sl h
  injection e with e1 e2 e3
  subst e2
  exact World.ownsRow.frozenAt h i
theorem Own.far {α : Type} {E : TypeId} {w w' : World} {B : Nat} {v : Value} {sz : Nat} {enc : α → List Value} {L : List α} {row : Option Nat} (h : Own E w B v sz enc L) (hg : w.grownBy w' row) (hv : ∀ g, v.ownBlock = some g → row ≠ some g) : Own E w' B v sz enc L := by
  rcases row with _ | r
  · exact Own.grown h (u := .slice Option.none 0 0) (by simpa [Value.ownBlock] using hg) (apart_nil _ _ _)
  · exact Own.grown h (u := .slice (some ⟨r, 0, Option.none⟩) 0 0) (by simpa [Value.ownBlock] using hg) (fun g h1 h2 => hv g h1 (by simpa [Value.ownBlock] using h2))
/-- Slices of numbers that may be written. -/
def shF : Sh Value (List Int) where
  sz := 1
  enc := encV
  len _ := rfl
  pos := by decide
  subs u := [u]
  rd w u s := Own 3 w 0 u 1 encI s
  keep hg hs h := Own.far h hg (hs _ (by simp))
  one h u hu := by
    simp [encV] at hu
    subst hu
    obtain ⟨ao, c, e⟩ := Own.sl h
    rw [e]; rfl
theorem GLs.wide {w : World} {v : Value} {M : List (List Int)} (h : GLs shF w v M) : GLs shI w v M := by
  obtain ⟨ds, h1, h2, h3⟩ := h.ex
  refine ⟨ds, h1, h2, fun k s hk => ?_⟩
  obtain ⟨d, hd, hr⟩ := h3 k s hk
  exact ⟨d, hd, Own.rows hr (fun _ => rfl)⟩
theorem make_intsB (n : Nat) (hn : n ≤ 2000000) (w : World) : (Instr.makeSlice 28 (.int .i64 n) (.int .i64 n)).run Tryd.prog w = .ok (.slice (some ⟨w.heap.size, 0, none⟩) n n) (w.alloc (.cells (zarr n) 3)) := by
  obtain ⟨j0, hj, hy0, hy1, hy2⟩ := info_parts infoInt
  have := run_make (P := Tryd.prog) w 28 3 j0 (.int .i64 0) Tryd.underlying28 hj hy0 .i64 .i64 n n (by omega) (Int.le_refl _) (by rw [hy2]; omega) (by omega)
  rw [hy1] at this
  simpa [zarr, Value.cells] using this
theorem make_rowsB (n : Nat) (hn : n ≤ 2000000) (w : World) : (Instr.makeSlice 22 (.int .i64 n) (.int .i64 n)).run Tryd.prog w = .ok (.slice (some ⟨w.heap.size, 0, none⟩) n n) (w.alloc (.cells (zarrV n) 28)) := by
  obtain ⟨j0, hj, hy0, hy1, hy2⟩ := info_parts infoRow
  have := run_make (P := Tryd.prog) w 22 28 j0 (.slice none 0 0) Tryd.underlying22 hj hy0 .i64 .i64 n n (by omega) (Int.le_refl _) (by rw [hy2]; omega) (by omega)
  rw [hy1] at this
  simpa [zarrV, Value.cells] using this
theorem own_zarrI (w : World) (B n : Nat) (hB : B ≤ w.heap.size) (hn : n ≤ 2000000) : Own 3 (w.alloc (.cells (zarr n) 3)) B (.slice (some ⟨w.heap.size, 0, none⟩) n n) 1 encI (List.replicate n 0) := by
  have hz : (zarr n).toList = List.replicate n (.int .i64 0) := toList_madeCells_one _ _
  have := World.ownsRow_lit (e := 3) (base := B) (size := 1) w (zarr n) n hB (le_maxLen (by omega)) (by unfold zarr; rw [size_madeCells]; omega)
  rw [hz] at this
  unfold Own
  rw [flatI, List.map_replicate, List.length_replicate]
  exact this
theorem own_zarrB (w : World) (B n : Nat) (hB : B ≤ w.heap.size) (hn : n ≤ 2000000) : Own 28 (w.alloc (.cells (zarrV n) 28)) B (.slice (some ⟨w.heap.size, 0, none⟩) n n) 1 encV (List.replicate n (.slice none 0 0)) := by
  have := World.ownsRow_lit (e := 28) (base := B) (size := 1) w (zarrV n) n hB (le_maxLen (by omega)) (by unfold zarrV; rw [size_madeCells]; omega)
  rw [zarrV_list] at this
  unfold Own
  rw [← flat_encV, List.length_replicate]
  exact this
theorem fill_step {α : Type} {L : List α} {k n : Nat} {x z : α} (hn : L.length = n) (hx : L[k]? = some x) : (L.take k ++ List.replicate (n - k) z).set k x = L.take (k + 1) ++ List.replicate (n - (k + 1)) z := by
  have hk : k < L.length := (List.getElem?_eq_some_iff.1 hx).1
  have h1 : (L.take k).length = k := by rw [List.length_take]; omega
  have h2 : n - k = (n - (k + 1)) + 1 := by omega
  rw [List.set_append_right _ _ (by omega), h1, Nat.sub_self, h2, List.replicate_succ, List.set_cons_zero, take_succ' hx, List.append_assoc]
  rfl
/-- How much is left of a measure. -/
def szI (P : List Int) (left : Int) : Int := if (P.length : Int) ≤ left then left - P.length else -1
theorem szIntS_any (v : Value) (P : List Int) (left : Int) (w : World) (h : Ints w v P) (h0 : 0 ≤ left) (h1 : left ≤ 1048576) :
    Calls Tryd.prog 9 #[v, .int .i64 left] w fun e w' => e = .returned (.int .i64 (szI P left)) ∧ Below w.heap.size w w' := by
  obtain ⟨ao, n, cap, rfl, hn, hnc, hcap⟩ := Ints.sl h
  have q : IntKind.i64.wrap (left - (n : Int)) = left - (n : Int) := IntWalk.i64_in _ (by omega)
  have hN := hn.out
  clear h
  go_enter Tryd.func9, Tryd.ntmps9
  by_cases hc : (n : Int) ≤ left
  · have e : Hid (szI P left = left - n) := by show _ = _; unfold szI; rw [if_pos (by omega), hN]
    have d : decide (left - (n : Int) < 0) = false := decide_eq_false (by omega)
    clear hc hN
    go_wp2
    go_ret
    exact ⟨by rw [e.out]; rfl, Below.refl _ _⟩
  · have e : Hid (szI P left = -1) := by show _ = _; unfold szI; rw [if_neg (by omega)]
    have d : decide (left - (n : Int) < 0) = true := decide_eq_true (by omega)
    clear hc hN
    go_wp2
    go_ret
    exact ⟨by rw [e.out]; rfl, Below.refl _ _⟩
/-- What a measure that was not used up tells. -/
def SzOk (M : List (List Int)) (r : Int) : Prop := r = -1 ∨ (0 ≤ r ∧ r ≤ 1048576 ∧ M.length ≤ 1048576 ∧ ∀ P ∈ M, P.length ≤ 1048576)
set_option maxHeartbeats 1000000 in
theorem szIntSS_any (v : Value) (M : List (List Int)) (left : Int) (w : World) (h : GLs shI w v M) (h0 : 0 ≤ left) (h1 : left ≤ 1048576) :
    Calls Tryd.prog 4 #[v, .int .i64 left] w fun e w' => ∃ r, e = .returned (.int .i64 r) ∧ SzOk M r ∧ Below w.heap.size w w' := by
  obtain ⟨ao, n, cap, rfl, hn, hnc, hcap⟩ := GLs.sl h
  have q : IntKind.i64.wrap (left - (n : Int)) = left - (n : Int) := IntWalk.i64_in _ (by omega)
  have HM := Lib.hid h
  clear h
  go_enter Tryd.func4, Tryd.ntmps4
  by_cases hc : (n : Int) ≤ left
  · have d : decide (left - (n : Int) < 0) = false := decide_eq_false (by omega)
    have hF := Fb.start w
    have hn1 : n ≤ 1048576 := by omega
    have h0' : 0 ≤ left - (n : Int) := by omega
    have h1' : left - (n : Int) ≤ 1048576 := by omega
    obtain ⟨l0, hl0⟩ : ∃ l0, left - (n : Int) = l0 := ⟨_, rfl⟩
    rw [hl0] at q d h0' h1'
    go_wp2
    go_loopw [5, 1] (fun i s wr => ∃ (k : Nat) (l : Int), k ≤ n ∧ i = .int .i64 k ∧ s = .int .i64 l ∧ 0 ≤ l ∧ l ≤ 1048576 ∧ Hid (∀ P ∈ M.take k, P.length ≤ 1048576) ∧ Fb w wr []) (fun i _ _ => n - (intOf i).toNat)
    case atStart => exact ⟨0, l0, Nat.zero_le _, rfl, rfl, h0', h1', fun P hP => by simp at hP, hF⟩
    case round =>
      clear hF h0' h1' d q hl0 h0 h1 hc
      obtain ⟨k, l, hk, rfl, rfl, g0, g1, hA, hF⟩ := hrel
      by_cases hlt : k < n
      · obtain ⟨b1, p1, rfl⟩ := GLs.adr HM.out (by omega)
        obtain ⟨P, hP⟩ := get_of hn.out hlt
        obtain ⟨a1, m1, c1, e1, i1, -, -, -⟩ := GLs.atI HM.out hP
        have x1 := hF.old e1
        have hp := Rows.below i1 hF.kp
        clear e1 i1
        go_wp2_with fail
        refine (szIntS_any _ P l _ hp g0 g1).mono ?_; rintro e w2 ⟨rfl, hb2⟩
        replace hF := hF.below hb2
        clear hb2 hp x1
        by_cases hz : (P.length : Int) ≤ l
        · have e : szI P l = l - P.length := by unfold szI; rw [if_pos hz]
          have d : decide (szI P l < 0) = false := decide_eq_false (by omega)
          have hA2 : Hid (∀ P ∈ M.take (k + 1), P.length ≤ 1048576) := fun R hR => by
            rw [take_succ' hP] at hR
            rcases List.mem_append.1 hR with hR | hR
            · exact hA.out R hR
            · rw [List.mem_singleton.1 hR]; omega
          have g2 : 0 ≤ szI P l := by omega
          have g3 : szI P l ≤ 1048576 := by omega
          clear e hz hP
          go_wp2
          go_roundw
          case rel => exact ⟨k + 1, _, by omega, by go_num, rfl, g2, g3, hA2, hF⟩
          case measure => simp [intOf]; omega
        · have e : szI P l = -1 := by unfold szI; rw [if_neg hz]
          rw [e]
          clear e hz hP
          go_wp2
          go_ret
          exact ⟨_, rfl, Or.inl rfl, hF.kp⟩
      · have hA2 : Hid (∀ P ∈ M, P.length ≤ 1048576) := fun R hR => hA.out R (by rwa [List.take_of_length_le (by have := hn.out; omega)])
        go_wp2
        go_ret
        exact ⟨_, rfl, Or.inr ⟨g0, g1, by rw [hn.out]; exact hn1, hA2.out⟩, hF.kp⟩
  · have d : decide (left - (n : Int) < 0) = true := decide_eq_true (by omega)
    clear hc
    go_wp2
    go_ret
    exact ⟨_, rfl, Or.inl rfl, Below.refl _ _⟩
set_option maxHeartbeats 1000000 in
theorem toIntS_any (v : Value) (P : List Int) (w : World) (h : Ints w v P) (hl : P.length ≤ 1048576) :
    Calls Tryd.prog 13 #[v] w fun e w' => ∃ g, e = .returned (.slice (some ⟨g, 0, none⟩) P.length P.length) ∧ w.heap.size ≤ g ∧ Own 3 w' w.heap.size (.slice (some ⟨g, 0, none⟩) P.length P.length) 1 encI P ∧ Below w.heap.size w w' := by
  obtain ⟨ao, n, cap, rfl, hn, hnc, hcap⟩ := Ints.sl h
  have HV := Lib.hid h
  rw [hn.out] at hl ⊢
  have hmk := make_intsB n (by omega)
  have hO := own_zarrI w w.heap.size n (Nat.le_refl _) (by omega)
  have hF := (Fb.start w).other (.cells (zarr n) 3)
  obtain ⟨g, hg⟩ : ∃ g, w.heap.size = g := ⟨_, rfl⟩
  rw [hg] at hO
  clear h
  go_enter Tryd.func13, Tryd.ntmps13
  go_wp2
  have HG := Lib.hid hg
  clear hg hmk
  go_loopw [4] (fun i wr => ∃ k : Nat, k ≤ n ∧ i = .int .i64 k ∧ Own 3 wr g (.slice (some ⟨g, 0, none⟩) n n) 1 encI (P.take k ++ List.replicate (n - k) 0) ∧ Fb w wr []) (fun i _ => n - (intOf i).toNat)
  case atStart => exact ⟨0, Nat.zero_le _, rfl, by simpa using hO, hF⟩
  case round =>
    clear hO hF
    obtain ⟨k, hk, rfl, hO, hF⟩ := hrel
    by_cases hlt : k < n
    · obtain ⟨b1, p1, rfl⟩ := Ints.some HV.out (by omega)
      obtain ⟨x, hx⟩ := get_of hn.out hlt
      have x1 := hF.old (Ints.get HV.out hx)
      obtain ⟨y, hy⟩ : ∃ y, (P.take k ++ List.replicate (n - k) 0)[k]? = some y := get_lt (by have := hn.out; simp; omega)
      have cy := OwnI.cell hO hy
      have ly := OwnI.live hO k
      have hO3 := OwnI.set hO k x
      rw [fill_step hn.out hx] at hO3
      have hF3 := hF.setAway ⟨g, k, none⟩ (.int .i64 x) (by dsimp only; have := HG.out; omega) (by simp)
      clear hO hF hy
      go_wp2
      go_roundw
      case rel => exact ⟨k + 1, by omega, by go_num, hO3, hF3⟩
      case measure => simp [intOf]; omega
    · have hkn : k = n := by omega
      subst hkn
      rw [Nat.sub_self, List.replicate_zero, List.append_nil, List.take_of_length_le (by have := hn.out; omega)] at hO
      go_wp2
      go_ret
      exact ⟨g, rfl, by have := HG.out; omega, by rw [HG.out]; exact hO, hF.kp⟩
set_option maxHeartbeats 2000000 in
theorem toIntSS_any (v : Value) (M : List (List Int)) (w : World) (h : GLs shI w v M) (hl : M.length ≤ 1048576) (hr : ∀ P ∈ M, P.length ≤ 1048576) :
    Calls Tryd.prog 6 #[v] w fun e w' => ∃ u, e = .returned u ∧ GOwn shF 28 w' w.heap.size u M ∧ Below w.heap.size w w' := by
  obtain ⟨ao, n, cap, rfl, hn, hnc, hcap⟩ := GLs.sl h
  have HV := Lib.hid h
  have HR := Lib.hid hr
  rw [hn.out] at hl
  have hmk := make_rowsB n (by omega)
  have hO := own_zarrB w w.heap.size n (Nat.le_refl _) (by omega)
  have hF := (Fb.start w).other (.cells (zarrV n) 28)
  obtain ⟨g, hg⟩ : ∃ g, w.heap.size = g := ⟨_, rfl⟩
  rw [hg] at hO
  clear h hr
  go_enter Tryd.func6, Tryd.ntmps6
  go_wp2
  have HG := Lib.hid hg
  clear hg hmk
  go_loopw [4] (fun i wr => ∃ (k : Nat) (vs : List Value), k ≤ n ∧ i = .int .i64 k ∧ Own 28 wr g (.slice (some ⟨g, 0, none⟩) n n) 1 encV vs ∧ vs.length = n ∧ GRel shF wr (g + 1) wr.heap.size (.slice (some ⟨g, 0, none⟩) n n) (vs.take k) (M.take k) ∧ Fb w wr []) (fun i _ => n - (intOf i).toNat)
  case atStart => exact ⟨0, _, Nat.zero_le _, rfl, hO, by simp, ⟨rfl, fun j s hs => by simp at hs⟩, hF⟩
  case round =>
    clear hO hF
    obtain ⟨k, vs, hk, rfl, hO, hvs, hG, hF⟩ := hrel
    by_cases hlt : k < n
    · obtain ⟨b1, p1, rfl⟩ := GLs.adr HV.out (by omega)
      obtain ⟨P, hP⟩ := get_of hn.out hlt
      obtain ⟨a1, m1, c1, e1, i1, -, -, -⟩ := GLs.atI HV.out hP
      have x1 := hF.old e1
      have hp := Rows.below i1 hF.kp
      have hpl := Lib.hid (HR.out P (List.mem_of_getElem? hP))
      have hgl := hO.lt g rfl
      clear e1 i1
      go_wp2_with fail
      refine (toIntS_any _ P _ hp hpl.out).mono ?_; rintro e w2 ⟨g2, rfl, hg2, hO2, hb2⟩
      replace hF := hF.below hb2
      replace hO := hO.below hb2
      replace hG := (hG.below hb2).mono (Nat.le_refl _) hb2.size
      obtain ⟨y, hy⟩ := get_of hvs hlt
      have cy := OwnV.cell hO hy
      have ly := OwnV.live hO k
      have hO3 := OwnV.set hO k (.slice (some ⟨g2, 0, none⟩) P.length P.length)
      have hF3 := hF.setAway ⟨g, k, none⟩ (.slice (some ⟨g2, 0, none⟩) P.length P.length) (by dsimp only; have := HG.out; omega) (by simp)
      have hv3 : (vs.set k (.slice (some ⟨g2, 0, none⟩) P.length P.length)).length = n := by simp [hvs]
      have hlt2 := hO2.lt g2 rfl
      have hG3 : GRel shF (w2.setCell ⟨g, k, none⟩ (.slice (some ⟨g2, 0, none⟩) P.length P.length)) (g + 1) (w2.setCell ⟨g, k, none⟩ (.slice (some ⟨g2, 0, none⟩) P.length P.length)).heap.size (.slice (some ⟨g, 0, none⟩) n n) ((vs.set k (.slice (some ⟨g2, 0, none⟩) P.length P.length)).take (k + 1)) (M.take (k + 1)) := by
        rw [take_succ' hP, take_succ' (x := .slice (some ⟨g2, 0, none⟩) P.length P.length) (by simp [hvs, hlt]), List.take_set_of_le (Nat.le_refl k), World.size_setCell]
        refine GRel.append (hG.far (grown_setC _ _ _) (fun g' h1 _ e => by injection e with e; dsimp only at e; omega)) (GRel.single (S := shF) ?_ ?_)
        · exact Own.far (hO2.base (Nat.zero_le _)) (grown_setC _ _ _) (fun g' h1 e => by simp [Value.ownBlock] at h1; injection e with e; dsimp only at e; omega)
        · intro u hu
          rw [List.mem_singleton.1 hu]
          exact ⟨fun g' h1 h2 => by simp [Value.ownBlock] at h1 h2; omega, fun g' h1 => by simp [Value.ownBlock] at h1; omega⟩
      clear hO hF hy hb2 hO2 hp x1 hG hP hlt2 hg2 hgl
      go_wp2
      go_roundw
      case rel => exact ⟨k + 1, _, by omega, by go_num, hO3, hv3, hG3, hF3⟩
      case measure => simp [intOf]; omega
    · have hkn : k = n := by omega
      subst hkn
      rw [List.take_of_length_le (by omega), List.take_of_length_le (by have := hn.out; omega)] at hG
      go_wp2
      go_ret
      exact ⟨_, rfl, ⟨vs, by rw [HG.out]; exact hO, by rw [HG.out]; exact hG.mono (Nat.le_succ _) (Nat.le_refl _)⟩, hF.kp⟩
set_option maxHeartbeats 2000000 in
theorem eqIntS_any (v1 v2 : Value) (L K : List Int) (w : World) (h1 : Ints w v1 L) (h2 : Ints w v2 K) :
    Calls Tryd.prog 15 #[v1, v2] w fun e w' => e = .returned (.bool (decide (L = K))) ∧ Below w.heap.size w w' := by
  have hF := Fb.start w
  obtain ⟨ao, n, cap, rfl, hn, hnc, hcap⟩ := Ints.sl h1
  obtain ⟨bo, m, cap2, rfl, hm, hmc, hcap2⟩ := Ints.sl h2
  have HL := Lib.hid h1
  have HK := Lib.hid h2
  clear h1 h2
  go_enter Tryd.func15, Tryd.ntmps15
  by_cases hnm : n = m
  · subst hnm
    have d1 : ((n : Int) != (n : Int)) = false := by simp
    go_wp2
    go_loopw [5] (fun i wr => ∃ k : Nat, k ≤ n ∧ i = .int .i64 k ∧ Hid (L.take k = K.take k) ∧ Fb w wr []) (fun i _ => n - (intOf i).toNat)
    case atStart => exact ⟨0, Nat.zero_le _, rfl, by show _ = _; simp, hF⟩
    case round =>
      clear hF
      obtain ⟨k, hk, rfl, ht, hF⟩ := hrel
      by_cases hlt : k < n
      · obtain ⟨b1, p1, rfl⟩ := Ints.some HL.out (by omega)
        obtain ⟨b2, p2, rfl⟩ := Ints.some HK.out (by omega)
        obtain ⟨s, hs⟩ := get_of hn.out hlt
        obtain ⟨t, ht2⟩ := get_of hm.out hlt
        have e1 := Ints.get HL.out hs
        have e2 := Ints.get HK.out ht2
        have x1 := fun z : Cl wr.heap.size wr => Cl.old hF z e1
        have x2 := fun z : Cl wr.heap.size wr => Cl.old hF z e2
        clear e1 e2
        by_cases hst : s = t
        · have hA := Lib.hid (tkW_eq ht.out hs ht2 hst)
          have dst : (s != t) = false := by simp [hst]
          clear hst hs ht2
          go_wp2
          first | refine wp_region_new (by kernel_rfl) (by kernel_rfl) ?_ | refine wp_region_lex ?_
          repeat (any_goals (first | go_big_quiet_step ((fail)) | (refine wpQuiet_step (fun K hK => ?_); go_simp; split <;> (rename_i hg; refine hK _ ?_; clear hK K; simp only [hg, decide_true, decide_false]))))
          all_goals (refine wpQuiet_nil ?_; intro x)
          go_wp2
          go_roundw
          case rel => exact ⟨k + 1, by omega, by go_num, hA, hF.cl x⟩
          case measure => simp [intOf]; omega
        · have hA := Lib.hid (tkW_ne hs ht2 hst)
          have dst : (s != t) = true := by simp [hst]
          clear hst hs ht2
          go_wp2
          first | refine wp_region_new (by kernel_rfl) (by kernel_rfl) ?_ | refine wp_region_lex ?_
          repeat (any_goals (first | go_big_quiet_step ((fail)) | (refine wpQuiet_step (fun K hK => ?_); go_simp; split <;> (rename_i hg; refine hK _ ?_; clear hK K; simp only [hg, decide_true, decide_false]))))
          all_goals (refine wpQuiet_nil ?_; intro x)
          go_wp2
          go_ret
          exact ⟨by rw [hA.out]; rfl, (hF.cl x).kp⟩
      · have hA := Lib.hid (tkW_end ht.out hn.out hm.out (by omega))
        go_wp2
        go_ret
        exact ⟨by rw [hA.out]; rfl, hF.kp⟩
  · have d1 : ((n : Int) != (m : Int)) = true := by simp; omega
    have hA := Lib.hid (tkW_len hn.out hm.out hnm)
    clear hnm
    go_wp2
    go_ret
    exact ⟨by rw [hA.out]; rfl, hF.kp⟩
set_option maxHeartbeats 2000000 in
theorem eqIntSS_any (v1 v2 : Value) (L K : List (List Int)) (w : World) (h1 : GLs shI w v1 L) (h2 : GLs shI w v2 K) :
    Calls Tryd.prog 8 #[v1, v2] w fun e w' => e = .returned (.bool (decide (L = K))) ∧ Below w.heap.size w w' := by
  have hF := Fb.start w
  obtain ⟨ao, n, cap, rfl, hn, hnc, hcap⟩ := GLs.sl h1
  obtain ⟨bo, m, cap2, rfl, hm, hmc, hcap2⟩ := GLs.sl h2
  have HL := Lib.hid h1
  have HK := Lib.hid h2
  clear h1 h2
  go_enter Tryd.func8, Tryd.ntmps8
  by_cases hnm : n = m
  · subst hnm
    have d1 : ((n : Int) != (n : Int)) = false := by simp
    go_wp2
    go_loopw [5] (fun i wr => ∃ k : Nat, k ≤ n ∧ i = .int .i64 k ∧ Hid (L.take k = K.take k) ∧ Fb w wr []) (fun i _ => n - (intOf i).toNat)
    case atStart => exact ⟨0, Nat.zero_le _, rfl, by show _ = _; simp, hF⟩
    case round =>
      clear hF
      obtain ⟨k, hk, rfl, ht, hF⟩ := hrel
      by_cases hlt : k < n
      · obtain ⟨b1, p1, rfl⟩ := GLs.adr HL.out (by omega)
        obtain ⟨b2, p2, rfl⟩ := GLs.adr HK.out (by omega)
        obtain ⟨s, hs⟩ := get_of hn.out hlt
        obtain ⟨t, ht2⟩ := get_of hm.out hlt
        obtain ⟨a1, m1, c1, e1, i1, -, -, -⟩ := GLs.atI HL.out hs
        obtain ⟨a2, m2, c2, e2, i2, -, -, -⟩ := GLs.atI HK.out ht2
        obtain ⟨C, hC⟩ : ∃ C, decide (s = t) = C := ⟨_, rfl⟩
        have hCz := Lib.hid (fun z : Cl wr.heap.size wr => (show Calls Tryd.prog 15 #[.slice a1 m1 c1, .slice a2 m2 c2] z.W fun e w' => e = .returned (.bool C) ∧ Below z.W.heap.size z.W w' from by have := eqIntS_any _ _ s t z.W (Rows.below i1 (hF.cl z).kp) (Rows.below i2 (hF.cl z).kp); rwa [hC] at this))
        have x1 := fun z : Cl wr.heap.size wr => Cl.old hF z e1
        have x2 := fun z : Cl wr.heap.size wr => Cl.old hF z e2
        clear e1 e2 i1 i2
        cases C with
        | true =>
          have hA := Lib.hid (tkW_eq ht.out hs ht2 (of_decide_eq_true hC))
          clear hC hs ht2
          go_wp2
          first | refine wp_region_new (by kernel_rfl) (by kernel_rfl) ?_ | refine wp_region_lex ?_
          repeat (any_goals (first | go_big_quiet_step (((go_at_call 15; exact Calls.cl (hCz.out _)))) | (refine wpQuiet_step (fun K hK => ?_); go_simp; split <;> (rename_i hg; refine hK _ ?_; clear hK K; simp only [hg, decide_true, decide_false]))))
          all_goals (refine wpQuiet_nil ?_; intro x)
          go_wp2
          go_roundw
          case rel => exact ⟨k + 1, by omega, by go_num, hA, hF.cl x⟩
          case measure => simp [intOf]; omega
        | false =>
          have hA := Lib.hid (tkW_ne hs ht2 (of_decide_eq_false hC))
          clear hC hs ht2
          go_wp2
          first | refine wp_region_new (by kernel_rfl) (by kernel_rfl) ?_ | refine wp_region_lex ?_
          repeat (any_goals (first | go_big_quiet_step (((go_at_call 15; exact Calls.cl (hCz.out _)))) | (refine wpQuiet_step (fun K hK => ?_); go_simp; split <;> (rename_i hg; refine hK _ ?_; clear hK K; simp only [hg, decide_true, decide_false]))))
          all_goals (refine wpQuiet_nil ?_; intro x)
          go_wp2
          go_ret
          exact ⟨by rw [hA.out]; rfl, (hF.cl x).kp⟩
      · have hA := Lib.hid (tkW_end ht.out hn.out hm.out (by omega))
        go_wp2
        go_ret
        exact ⟨by rw [hA.out]; rfl, hF.kp⟩
  · have d1 : ((n : Int) != (m : Int)) = true := by simp; omega
    have hA := Lib.hid (tkW_len hn.out hm.out hnm)
    clear hnm
    go_wp2
    go_ret
    exact ⟨by rw [hA.out]; rfl, hF.kp⟩
end Go.Proofs.YtdemclnhdggmcaaDoor
set_option linter.unusedSimpArgs false
set_option linter.unusedVariables false
namespace Go.Proofs.YtdemclnhdggmcaaDoor
open Go.RowKit Go.Maps Go.WideMaps

theorem wayP_house {M : List (List Int)} {home h : Int} {P : List Int} (hM : RelsP M) (hh : Bts home 1 M.length) (e : h = home) : WayP M home P h ↔ P = [home] := by subst e; exact wayP_home hM hh
set_option maxHeartbeats 4000000 in
theorem readNet_any (v u : Value) (M W : List (List Int)) (home : Int) (a : Addr) (w : World) (hM : Mat w v M) (hW : GLs shI w u W) (hE : EPath w a) (hl : ∀ P ∈ W, P.length ≤ 3000000) :
    Calls Tryd.prog 14 #[v, .int .i64 home, u] w fun e w' => ∃ pu, e = .returned (.tuple #[pu, .bool (decide (NetP M home W))]) ∧ Below w.heap.size w w' := by
  obtain ⟨bo, m, cap2, rfl, hm, hmc, hcap2⟩ := GLs.sl hW
  go_enter Tryd.func14, Tryd.ntmps14
  by_cases k1 : RelsP M
  · have HC := Lib.hid (readRels_yes v M w hM k1)
    have hM5 := k1.2.2
    obtain ⟨n, hn⟩ : ∃ n, Hid (M.length = n) := ⟨_, rfl⟩
    rw [hn.out] at HC hM5
    go_wp2_with fail
    refine HC.out.mono ?_; rintro e w1 ⟨b, rfl, hK, hb1⟩
    have hF := ((Fb.start w).below hb1).alloc [.int .i64 n, .map (some b)] 42
    replace hK := hK.alloc (.cells #[.int .i64 n, .map (some b)] 42)
    obtain ⟨n8, hn8⟩ : ∃ n, w1.heap.size = n := ⟨_, rfl⟩
    rw [hn8] at hF
    have o := hF.own; simp only [World.size_alloc, World.size_drew, World.size_setCell, List.mem_cons, List.not_mem_nil, or_false, forall_eq_or_imp, forall_eq, At, and_true, Nat.zero_add, Nat.reduceAdd, List.set_cons_zero, List.set_cons_succ] at o
    go_wp2_with fail
    refine (rhas_any (n : Int) home (.map (some b)) _ rfl).mono ?_; rintro e w2 ⟨rfl, hb2⟩
    replace hF := hF.below hb2
    replace hK := hK.below hb2
    clear hb2 o hb1 HC hn8
    by_cases k2 : Bts home 1 n
    · have d2 : decide (Bts home 1 (n : Int)) = true := by simp [k2]
      have K2 : Hid (Bts home 1 M.length) := by show Bts _ _ _; rw [hn.out]; exact k2
      clear k2
      by_cases k3 : m = n
      · subst k3
        have d3 : ((m : Int) != (m : Int)) = false := by simp
        have H0 := Lib.hid (show RelsP M ∧ Bts home 1 M.length ∧ W.length = M.length from ⟨k1, K2.out, hm.out.trans hn.out.symm⟩)
        have HW0 := Lib.hid hW
        have HL := Lib.hid hl
        have HE := Lib.hid hE
        clear k1 hM hW hl hE
        have o := hF.own; simp only [World.size_alloc, World.size_drew, World.size_setCell, List.mem_cons, List.not_mem_nil, or_false, forall_eq_or_imp, forall_eq, At, and_true, Nat.zero_add, Nat.reduceAdd, List.set_cons_zero, List.set_cons_succ] at o
        go_upto_region 4 with (fail)
        obtain ⟨wb, hwb⟩ : ∃ wb : World, wb = w2 := ⟨_, rfl⟩
        rw [← hwb] at hF hK o ⊢
        clear hwb
        have HC := Lib.hid (show wb.cell? ⟨n8, 0, none⟩ = some (.int .i64 m) ∧ wb.cell? ⟨n8, 1, none⟩ = some (.map (some b)) by simp [o])
        have HF := Lib.hid hF.kp
        have HW := Lib.hid (HW0.out.below hF.kp)
        have HEb := Lib.hid (HE.out.below hF.kp)
        have HK := Lib.hid hK
        have hQ := Fb.start wb
        clear hF hK o HE HW0
        obtain ⟨q0, q1⟩ := HC.out
        go_cut [10] (fun s10 wx => ∃ (q : Nat), s10 = .pointer (some ⟨q, 0, none⟩) ∧ Hid (wx.cell? ⟨q, 0, none⟩ = some (.int .i64 m) ∧ wx.cell? ⟨q, 1, none⟩ = some (.map (some b)) ∧ wx.cell? ⟨q, 2, none⟩ = some (.int .i64 home)) ∧ Fb wb wx [])
        case first =>
          go_region_held3 (fun w' => w'.cell? ⟨n8, 0, none⟩ = some (.int .i64 m) ∧ w'.cell? ⟨n8, 1, none⟩ = some (.map (some b)))
            (first | (with_reducible assumption) | (refine ⟨?_, ?_⟩; exact Fb.old (w := wb) (L := []) (by repeat (first | (with_reducible assumption) | (with_reducible apply Fb.drew) | (with_reducible apply Fb.other) | (with_reducible apply Fb.setAway) | (intro q hq; cases hq) | (have := hQ.kp.size; (try simp only [World.size_alloc, World.size_drew, World.size_setCell]); (try dsimp only); omega))) HC.out.1; exact Fb.old (w := wb) (L := []) (by repeat (first | (with_reducible assumption) | (with_reducible apply Fb.drew) | (with_reducible apply Fb.other) | (with_reducible apply Fb.setAway) | (intro q hq; cases hq) | (have := hQ.kp.size; (try simp only [World.size_alloc, World.size_drew, World.size_setCell]); (try dsimp only); omega))) HC.out.2))
            (first
              | (go_at_call 21; go_must (refine (copyWays_any _ W _ (HW.out.below (Fb.kp (W := wb) (L := []) (by repeat (first | (with_reducible assumption) | (with_reducible apply Fb.drew) | (with_reducible apply Fb.other) | (with_reducible apply Fb.setAway) | (intro q hq; cases hq) | (have := hQ.kp.size; (try simp only [World.size_alloc, World.size_drew, World.size_setCell]); (try dsimp only); omega))))) (by have := hm.out; omega) HL.out).mono ?_); rintro e wx ⟨ca, cm, cc, rfl, hbx⟩; replace hQ := Fb.below (W := wb) (L := []) (by repeat (first | (with_reducible assumption) | (with_reducible apply Fb.drew) | (with_reducible apply Fb.other) | (with_reducible apply Fb.setAway) | (intro q hq; cases hq) | (have := hQ.kp.size; (try simp only [World.size_alloc, World.size_drew, World.size_setCell]); (try dsimp only); omega))) hbx; clear hbx))
          all_goals
            rename_i hHd; clear hHd
            go_wp2_with fail
            go_meet
            case rel => exact ⟨_, rfl, ⟨by simp, by simp, by simp⟩, (by repeat (first | (with_reducible assumption) | (with_reducible apply Fb.drew) | (with_reducible apply Fb.other) | (with_reducible apply Fb.setAway) | (intro q hq; cases hq) | (have := hQ.kp.size; (try simp only [World.size_alloc, World.size_drew, World.size_setCell]); (try dsimp only); omega)))⟩
        case rest =>
          obtain ⟨q, rfl, hcq, hFb⟩ := hcut
          clear q0 q1 hQ
          obtain ⟨we, hwe⟩ : ∃ we : World, we = wc := ⟨_, rfl⟩
          rw [← hwe] at hFb hcq ⊢
          clear hwe
          have HKe := Lib.hid hFb.kp
          have HWe := Lib.hid (HW.out.below hFb.kp)
          have HEe := Lib.hid (HEb.out.below hFb.kp)
          have HKn := Lib.hid (HK.out.below hFb.kp)
          have hQ := Fb.start we
          clear hFb
          go_wp2
          go_loopw [42] (fun i wr => ∃ k : Nat, k ≤ m ∧ i = .int .i64 k ∧ Hid (∀ j, j < k → WayP M home (W.getD j []) ((j : Int) + 1)) ∧ Fb we wr []) (fun i _ => m - (intOf i).toNat)
          case atStart => exact ⟨0, Nat.zero_le _, rfl, fun j hj => (by omega), hQ⟩
          case round =>
            clear hQ
            obtain ⟨k, hk, rfl, ht, hQ⟩ := hrel
            have hKK : Hid (∀ wz, Below wr.heap.size wr wz → Below w.heap.size w wz) := fun wz Kz => HF.out.trans ((HKe.out.trans ((hQ.kp.trans (Kz.mono hQ.kp.size)).mono HKe.out.size)).mono HF.out.size)
            by_cases hlt : k < m
            · obtain ⟨b1, p1, rfl⟩ := GLs.adr HWe.out (by omega)
              obtain ⟨P, hP⟩ := get_of hm.out hlt
              obtain ⟨a1, m1, c1, e1, i1, hm1, -, -⟩ := GLs.atI HWe.out hP
              have x1 := hQ.old e1
              have hp := Rows.below i1 hQ.kp
              have HP := Lib.hid hP
              clear e1 i1 hP
              by_cases hh : (k : Int) + 1 = home
              · have dh : (((k : Int) + 1) == home) = true := by simp [hh]
                have hpf : Ints (wr.alloc (.cells #[.int .i64 home] 3)) (.slice (some ⟨wr.heap.size, 0, none⟩) 1 1) [home] := (Own.lit 3 wr wr.heap.size 1 encI [home] (fun _ => rfl) (Nat.le_refl _) (by simp)).rows (fun _ => rfl)
                have cE := Lib.hid (EqualI_any _ _ P [home] _ (Rows.alloc hp (.cells #[.int .i64 home] 3)) hpf)
                have hF2 := hQ.other (.cells #[.int .i64 home] 3)
                have HH := Lib.hid (wayP_house (P := P) H0.out.1 H0.out.2.1 hh)
                clear hp hpf hh
                by_cases hq : P = [home]
                · have dq : decide (P = [home]) = true := decide_eq_true hq
                  have hA : Hid (∀ j, j < k + 1 → WayP M home (W.getD j []) ((j : Int) + 1)) := wayP_go ht.out HP.out (HH.out.2 hq)
                  rw [dq] at cE
                  clear hq dq
                  go_wp2_with fail
                  refine cE.out.mono ?_; rintro e w3 ⟨rfl, hb3⟩
                  replace hF2 := hF2.below hb3
                  clear hb3 cE x1
                  go_wp2
                  go_roundw
                  case rel => exact ⟨k + 1, by omega, by go_num, hA, hF2⟩
                  case measure => simp [intOf]; omega
                · have dq : decide (P = [home]) = false := decide_eq_false hq
                  have hr : Hid (decide (NetP M home W) = false) := netP_bad hm.out hlt HP.out (fun g => hq (HH.out.1 g))
                  rw [dq] at cE
                  clear hq dq
                  go_wp2_with fail
                  refine cE.out.mono ?_; rintro e w3 ⟨rfl, hb3⟩
                  replace hF2 := hF2.below hb3
                  clear hb3 cE x1
                  go_wp2
                  refine bodyPost_ret (v := .tuple #[.pointer none, .bool false]) ?_ rfl ?_
                  · simp [results, Tryd.results14, go_sem]
                  · exact ⟨_, by rw [hr.out], HF.out.trans ((HKe.out.trans (hF2.kp.mono HKe.out.size)).mono HF.out.size)⟩
              · have dh : (((k : Int) + 1) == home) = false := by simp [hh]
                have HH := Lib.hid (wayP_other (M := M) (P := P) hh)
                clear hh
                by_cases hm0 : m1 = 0
                · have hP0 : P = [] := List.length_eq_zero_iff.1 (hm1.out.trans hm0)
                  have hA : Hid (∀ j, j < k + 1 → WayP M home (W.getD j []) ((j : Int) + 1)) := wayP_go ht.out HP.out (HH.out.2 (Or.inl hP0))
                  have dm : decide (0 < (m1 : Int)) = false := decide_eq_false (by omega)
                  have dm' : decide (0 < m1) = false := decide_eq_false (by omega)
                  clear hm0 hP0 hp
                  go_wp2
                  go_roundw
                  case rel => exact ⟨k + 1, by omega, by go_num, hA, hQ⟩
                  case measure => simp [intOf]; omega
                · have dm : decide (0 < (m1 : Int)) = true := decide_eq_true (by omega)
                  have dm' : decide (0 < m1) = true := decide_eq_true (by omega)
                  have hne : P ≠ [] := by rintro rfl; have := hm1.out; simp at this; omega
                  have cL := leads_any q b 0 0 none (.slice a1 m1 c1) M home ((k : Int) + 1) P a wr H0.out.1 (HKn.out.below hQ.kp) (by rw [hn.out]; exact hQ.old hcq.out.1) (hQ.old hcq.out.2.1) (hQ.old hcq.out.2.2) hp (by rw [hm1.out]; omega) (HEe.out.below hQ.kp)
                  clear hm0 hp
                  by_cases hq : LeadsP M home P ((k : Int) + 1)
                  · rw [decide_eq_true hq] at cL
                    have CL := Lib.hid cL
                    have hA : Hid (∀ j, j < k + 1 → WayP M home (W.getD j []) ((j : Int) + 1)) := wayP_go ht.out HP.out (HH.out.2 (Or.inr ⟨hne, hq⟩))
                    clear hq cL hne
                    go_wp2_with fail
                    refine CL.out.mono ?_; rintro e w3 ⟨rfl, hb3⟩
                    replace hQ := hQ.below hb3
                    clear hb3 CL x1
                    go_wp2
                    go_roundw
                    case rel => exact ⟨k + 1, by omega, by go_num, hA, hQ⟩
                    case measure => simp [intOf]; omega
                  · rw [decide_eq_false hq] at cL
                    have CL := Lib.hid cL
                    have hr : Hid (decide (NetP M home W) = false) := netP_bad hm.out hlt HP.out (fun g => (HH.out.1 g).elim hne (fun z => hq z.2))
                    clear hq cL hne
                    go_wp2_with fail
                    refine CL.out.mono ?_; rintro e w3 ⟨rfl, hb3⟩
                    have hbz := hKK.out _ hb3
                    clear hb3 CL x1
                    go_wp2
                    refine bodyPost_ret (v := .tuple #[.pointer none, .bool false]) ?_ rfl ?_
                    · simp [results, Tryd.results14, go_sem]
                    · exact ⟨_, by rw [hr.out], hbz⟩
            · have hr : Hid (decide (NetP M home W) = true) := netP_all hm.out (fun i hi => ht.out i (by omega)) H0.out
              go_wp2
              refine bodyPost_ret (v := .tuple #[.pointer (some ⟨q, 0, none⟩), .bool true]) ?_ rfl ?_
              · simp [results, Tryd.results14, go_sem]
              · exact ⟨_, by rw [hr.out], hKK.out _ (Below.refl _ _)⟩
      · have d3 : ((m : Int) != (n : Int)) = true := by simp; omega
        have hr : Hid (decide (NetP M home W) = false) := decide_eq_false (fun g => k3 (by have := g.1.2.2; rw [hm.out, hn.out] at this; exact this))
        clear k3
        have o := hF.own; simp only [World.size_alloc, World.size_drew, World.size_setCell, List.mem_cons, List.not_mem_nil, or_false, forall_eq_or_imp, forall_eq, At, and_true, Nat.zero_add, Nat.reduceAdd, List.set_cons_zero, List.set_cons_succ] at o
        go_wp2
        refine bodyPost_ret (v := .tuple #[.pointer none, .bool false]) ?_ rfl ?_
        · simp [results, Tryd.results14, go_sem]
        · exact ⟨_, by rw [hr.out], hF.kp⟩
    · have d2 : decide (Bts home 1 (n : Int)) = false := by simp [k2]
      have hr : Hid (decide (NetP M home W) = false) := decide_eq_false (fun g => k2 (by have := g.1.2.1; rwa [hn.out] at this))
      clear k2
      go_wp2
      refine bodyPost_ret (v := .tuple #[.pointer none, .bool false]) ?_ rfl ?_
      · simp [results, Tryd.results14, go_sem]
      · exact ⟨_, by rw [hr.out], hF.kp⟩
  · have HC := Lib.hid (readRels_no v M w hM k1)
    have hr : Hid (decide (NetP M home W) = false) := decide_eq_false (fun g => k1 g.1.1)
    go_wp2_with fail
    refine HC.out.mono ?_; rintro e w1 ⟨rfl, hb1⟩
    have hF := ((Fb.start w).below hb1).alloc [.int .i64 0, .map none] 42
    go_wp2
    refine bodyPost_ret (v := .tuple #[.pointer none, .bool false]) ?_ rfl ?_
    · simp [results, Tryd.results14, go_sem]
    · exact ⟨_, by rw [hr.out], hF.kp⟩
theorem iNetOk_any (v u : Value) (M W : List (List Int)) (home : Int) (a : Addr) (w : World) (hM : Mat w v M) (hW : GLs shI w u W) (hE : EPath w a) (hl : ∀ P ∈ W, P.length ≤ 3000000) :
    Calls Tryd.prog 7 #[v, .int .i64 home, u] w fun e w' => e = .returned (.bool (decide (NetP M home W))) ∧ Below w.heap.size w w' := by
  go_enter Tryd.func7, Tryd.ntmps7
  go_wp2_with fail
  refine (readNet_any v u M W home a w hM hW hE hl).mono ?_; rintro e w1 ⟨pu, rfl, hb1⟩
  go_wp2
  go_ret
  exact ⟨rfl, hb1⟩
end Go.Proofs.YtdemclnhdggmcaaDoor
set_option linter.unusedSimpArgs false
set_option linter.unusedVariables false
namespace Go.Proofs.YtdemclnhdggmcaaDoor
open Go.RowKit Go.Maps Go.WideMaps

theorem eqIntSS_same (v1 v2 : Value) (L : List (List Int)) (w : World) (h1 : GLs shI w v1 L) (h2 : GLs shI w v2 L) :
    Calls Tryd.prog 8 #[v1, v2] w fun e w' => e = .returned (.bool true) ∧ Below w.heap.size w w' := by
  have := eqIntSS_any v1 v2 L L w h1 h2
  rwa [decide_eq_true rfl] at this
set_option maxRecDepth 100000 in
set_option maxHeartbeats 2000000 in
theorem FnExactNetOk_walk (v u : Value) (home : Int) (M W : List (List Int)) (a : Addr) (w : World) (hM : GLs shI w v M) (hW : GLs shI w u W) (hE : EPath w a) :
    Calls Tryd.prog 3 #[v, .int .i64 home, u] w fun e w' => e = .returned (.bool true) ∧ Below w.heap.size w w' := by
  have hF := Fb.start w
  go_enter Tryd.func3, Tryd.ntmps3
  go_wp2_with fail
  refine (szIntSS_any v M 1048576 _ hM (by omega) (by omega)).mono ?_; rintro e w1 ⟨r, rfl, hr, hb⟩
  replace hF := hF.below hb
  replace hM := hM.below hb
  replace hW := hW.below hb
  replace hE := hE.below hb
  clear hb
  by_cases hr0 : r < 0
  · have d : decide (r < 0) = true := decide_eq_true hr0
    go_wp2
    go_ret
    exact ⟨rfl, hF.kp⟩
  obtain ⟨q0, q1, hm, hmr⟩ := hr.resolve_left (by omega)
  have d : decide (r < 0) = false := decide_eq_false hr0
  clear hr hr0
  go_wp2_with fail
  refine (szIntSS_any u W r _ hW q0 q1).mono ?_; rintro e w2 ⟨s, rfl, hs, hb⟩
  replace hF := hF.below hb
  replace hM := hM.below hb
  replace hW := hW.below hb
  replace hE := hE.below hb
  clear hb q0 q1 d
  by_cases hs0 : s < 0
  · have d : decide (s < 0) = true := decide_eq_true hs0
    go_wp2
    go_ret
    exact ⟨rfl, hF.kp⟩
  obtain ⟨-, -, hw, hwr⟩ := hs.resolve_left (by omega)
  have d : decide (s < 0) = false := decide_eq_false hs0
  clear hs hs0
  have HMR := Lib.hid hmr
  have HWR := Lib.hid hwr
  have HWR3 : Hid (∀ P ∈ W, P.length ≤ 3000000) := fun P hP => by have := hwr P hP; omega
  clear hmr hwr
  obtain ⟨C, hC⟩ : ∃ C, decide (NetP M home W) = C := ⟨_, rfl⟩
  have HC := Lib.hid hC
  clear hC
  go_wp2_with fail
  refine (toIntSS_any v M _ hM hm HMR.out).mono ?_; rintro e w3 ⟨v1, rfl, hO, hb⟩
  replace hF := hF.below hb
  replace hM := hM.below hb
  replace hW := hW.below hb
  replace hE := hE.below hb
  have hV1 := hO.gls.wide
  clear hb hO d
  go_wp2_with fail
  refine (toIntSS_any u W _ hW hw HWR.out).mono ?_; rintro e w4 ⟨u1, rfl, hO, hb⟩
  replace hF := hF.below hb
  replace hM := hM.below hb
  replace hW := hW.below hb
  replace hE := hE.below hb
  replace hV1 := hV1.below hb
  have hU1 := hO.gls.wide
  clear hb hO
  go_wp2_with fail
  refine (sNetOk_any v1 u1 M W home _ hV1.mat hU1).mono ?_; rw [HC.out]; rintro e w5 ⟨rfl, hb⟩
  replace hF := hF.below hb
  replace hM := hM.below hb
  replace hW := hW.below hb
  replace hE := hE.below hb
  clear hb hV1 hU1
  go_wp2_with fail
  refine (toIntSS_any v M _ hM hm HMR.out).mono ?_; rintro e w6 ⟨x0, rfl, hO, hb⟩
  replace hF := hF.below hb
  replace hM := hM.below hb
  replace hW := hW.below hb
  replace hE := hE.below hb
  have hX0 := hO.gls.wide
  clear hb hO
  go_wp2_with fail
  refine (toIntSS_any u W _ hW hw HWR.out).mono ?_; rintro e w7 ⟨x2, rfl, hO, hb⟩
  replace hF := hF.below hb
  replace hM := hM.below hb
  replace hW := hW.below hb
  replace hE := hE.below hb
  replace hX0 := hX0.below hb
  have hX2 := hO.gls.wide
  clear hb hO
  go_wp2_with fail
  refine (iNetOk_any x0 x2 M W home a _ hX0.mat hX2 hE HWR3.out).mono ?_; rw [HC.out]; rintro e w8 ⟨rfl, hb⟩
  replace hF := hF.below hb
  replace hM := hM.below hb
  replace hW := hW.below hb
  replace hX0 := hX0.below hb
  replace hX2 := hX2.below hb
  clear hb hE HC
  have dC : (C != C) = false := by cases C <;> rfl
  go_wp2_with fail
  refine (toIntSS_any v M _ hM hm HMR.out).mono ?_; rintro e w9 ⟨v9, rfl, hO, hb⟩
  replace hF := hF.below hb
  replace hW := hW.below hb
  replace hX0 := hX0.below hb
  replace hX2 := hX2.below hb
  have hV9 := hO.gls.wide
  clear hb hO hM dC
  go_wp2_with fail
  refine (eqIntSS_same x0 v9 M _ hX0 hV9).mono ?_; rintro e wa ⟨rfl, hb⟩
  replace hF := hF.below hb
  replace hW := hW.below hb
  replace hX2 := hX2.below hb
  clear hb hX0 hV9
  go_wp2_with fail
  refine (toIntSS_any u W _ hW hw HWR.out).mono ?_; rintro e wb ⟨ub, rfl, hO, hb⟩
  replace hF := hF.below hb
  replace hX2 := hX2.below hb
  have hUb := hO.gls.wide
  clear hb hO hW
  go_wp2_with fail
  refine (eqIntSS_same x2 ub W _ hX2 hUb).mono ?_; rintro e wc ⟨rfl, hb⟩
  replace hF := hF.below hb
  clear hb hX2 hUb
  go_wp2
  go_ret
  exact ⟨rfl, hF.kp⟩
end Go.Proofs.YtdemclnhdggmcaaDoor
