/- Nets: NetNone of the program. Exact laws: sizes, fresh copies, equality. Exact laws: marks written and held. -/
import Derived.Test.YtdemclnhdggmcaaZ8
set_option linter.unusedSimpArgs false
set_option linter.unusedVariables false
namespace Go.Proofs.Ytdemclnhdggmcaa
open Go.RowKit Go.Maps Go.WideMaps

theorem Own.far {α : Type} {E : TypeId} {w w' : World} {B : Nat} {v : Value} {sz : Nat} {enc : α → List Value} {L : List α} {row : Option Nat} (h : Own E w B v sz enc L) (hg : w.grownBy w' row) (hv : ∀ g, v.ownBlock = some g → row ≠ some g) : Own E w' B v sz enc L := by
  rcases row with _ | r
  · exact Own.grown h (u := .slice Option.none 0 0) (by simpa [Value.ownBlock] using hg) (apart_nil _ _ _)
  · exact Own.grown h (u := .slice (some ⟨r, 0, Option.none⟩) 0 0) (by simpa [Value.ownBlock] using hg) (fun g h1 h2 => hv g h1 (by simpa [Value.ownBlock] using h2))
/-- Slices of numbers that may be written. -/
def shF : Sh Value (List Int) where
  sz := 1
  enc := encV
  len _ := rfl
  pos := by decide
  subs u := [u]
  rd w u s := Own 3 w 0 u 1 encI s
  keep hg hs h := Own.far h hg (hs _ (by simp))
  one h u hu := by
    simp [encV] at hu
    subst hu
    obtain ⟨ao, c, e⟩ := Own.sl h
    rw [e]; rfl
theorem GLs.wide {w : World} {v : Value} {M : List (List Int)} (h : GLs shF w v M) : GLs shI w v M := by
  obtain ⟨ds, h1, h2, h3⟩ := h.ex
  refine ⟨ds, h1, h2, fun k s hk => ?_⟩
  obtain ⟨d, hd, hr⟩ := h3 k s hk
  exact ⟨d, hd, Own.rows hr (fun _ => rfl)⟩
def zarrV (n : Nat) : Array Value := madeCells #[.slice none 0 0] n
theorem zarrV_list (n : Nat) : (zarrV n).toList = List.replicate n (.slice none 0 0) := toList_madeCells_one _ _
theorem zarrV_at {n j : Nat} (h : j < n) : (zarrV n)[j]? = some (.slice none 0 0) := by
  rw [← Array.getElem?_toList, zarrV_list]; simp [h]
theorem make_rows (n : Nat) (hn : n ≤ 1000) (w : World) : (Instr.makeSlice 22 (.int .i64 n) (.int .i64 n)).run Try.prog w = .ok (.slice (some ⟨w.heap.size, 0, none⟩) n n) (w.alloc (.cells (zarrV n) 40)) := by
  obtain ⟨j0, hj, hy0, hy1, hy2⟩ := info_parts infoRow
  have := run_make (P := Try.prog) w 22 40 j0 (.slice none 0 0) Try.underlying22 hj hy0 .i64 .i64 n n (by omega) (Int.le_refl _) (by rw [hy2]; omega) (by omega)
  rw [hy1] at this
  simpa [zarrV, Value.cells] using this
theorem own_zarrV (w : World) (B n : Nat) (hB : B ≤ w.heap.size) (hn : n ≤ 1000000) : Own 40 (w.alloc (.cells (zarrV n) 40)) B (.slice (some ⟨w.heap.size, 0, none⟩) n n) 1 encV (List.replicate n (.slice none 0 0)) := by
  have := World.ownsRow_lit (e := 40) (base := B) (size := 1) w (zarrV n) n hB (le_maxLen (by omega)) (by unfold zarrV; rw [size_madeCells]; omega)
  rw [zarrV_list] at this
  unfold Own
  rw [← flat_encV, List.length_replicate]
  exact this
theorem OwnV.set {E : TypeId} {w : World} {B g n cap : Nat} {vs : List Value} (h : Own E w B (.slice (some ⟨g, 0, none⟩) n cap) 1 encV vs) (i : Nat) (x : Value) : Own E (w.setCell ⟨g, i, none⟩ x) B (.slice (some ⟨g, 0, none⟩) n cap) 1 encV (vs.set i x) := by
  obtain ⟨ao, c, e⟩ := Own.sl h
  injection e with e1 e2 e3
  subst e2
  have := (World.ownsRow.stored h i x).1
  unfold Own
  rw [List.length_set, ← flat_encV]
  rwa [← flat_encV] at this
theorem GLs.atI {w : World} {b off n cap : Nat} {L : List (List Int)} (h : GLs shI w (.slice (some ⟨b, off, none⟩) n cap) L) {k : Nat} {s : List Int} (hk : L[k]? = some s) :
    ∃ a m c, w.cell? ⟨b, off + k, none⟩ = some (.slice a m c) ∧ Ints w (.slice a m c) s ∧ Hid (s.length = m) ∧ m ≤ c ∧ c ≤ 9223372036854775807 := by
  obtain ⟨d, hr, hc⟩ := GLs.at h hk
  have c0 := hc 0 d rfl
  have hr' : Ints w d s := hr
  obtain ⟨ao, c, e, h1, h2, -⟩ := hr'.ex
  subst e
  refine ⟨ao, s.length, c, ?_, hr, rfl, h1, h2⟩
  have e : off + k * shI.sz + 0 = off + k := by show off + k * 1 + 0 = off + k; omega
  rwa [e] at c0
theorem tkW_ne {α : Type} [DecidableEq α] {L K : List α} {k : Nat} {p q : α} (h1 : L[k]? = some p) (h2 : K[k]? = some q) (h : p ≠ q) : decide (L = K) = false := by
  rw [decide_eq_false_iff_not]; rintro rfl; rw [h1] at h2; injection h2 with h2; exact h h2
theorem tkW_eq {α : Type} {L K : List α} {k : Nat} {p q : α} (h0 : L.take k = K.take k) (h1 : L[k]? = some p) (h2 : K[k]? = some q) (h : p = q) : L.take (k + 1) = K.take (k + 1) := by
  rw [take_succ' h1, take_succ' h2, h0, h]
theorem tkW_end {α : Type} [DecidableEq α] {L K : List α} {k n : Nat} (h0 : L.take k = K.take k) (h1 : L.length = n) (h2 : K.length = n) (hk : n ≤ k) : decide (L = K) = true := by
  rw [decide_eq_true_iff]
  rwa [List.take_of_length_le (by omega), List.take_of_length_le (by omega)] at h0
theorem tkW_len {α : Type} [DecidableEq α] {L K : List α} {n m : Nat} (h1 : L.length = n) (h2 : K.length = m) (h : n ≠ m) : decide (L = K) = false := by
  rw [decide_eq_false_iff_not]; rintro rfl; omega
theorem OwnV.cell {E : TypeId} {w : World} {B g n cap : Nat} {vs : List Value} (h : Own E w B (.slice (some ⟨g, 0, none⟩) n cap) 1 encV vs) {i : Nat} {x : Value} (hx : vs[i]? = some x) : w.cell? ⟨g, i, none⟩ = some x := by
  have := Rows.get (h.rows (fun _ => rfl)) hx (j := 0) rfl
  simpa using this
theorem OwnV.live {E : TypeId} {w : World} {B g n cap : Nat} {vs : List Value} (h : Own E w B (.slice (some ⟨g, 0, none⟩) n cap) 1 encV vs) (i : Nat) : w.frozen? ⟨g, i, none⟩ = false := by
  obtain ⟨ao, c, e⟩ := Own.sl h
  injection e with e1 e2 e3
  subst e2
  exact World.ownsRow.frozenAt h i
/-- Home's own way put into a row of none. -/
theorem none_own {w : World} {B g n k : Nat} {home : Int} (h : Own 40 w B (.slice (some ⟨g, 0, none⟩) n n) 1 encV (List.replicate n (.slice none 0 0))) (hk : home = (k : Int) + 1) (hkn : k < n) :
    GOwn shF 40 ((w.alloc (.cells #[.int .i64 home] 3)).setCell ⟨g, k, none⟩ (.slice (some ⟨w.heap.size, 0, none⟩) 1 1)) B (.slice (some ⟨g, 0, none⟩) n n) (noneL home n) := by
  have hg := h.lt g rfl
  have hge := h.ge g rfl
  have hO := OwnV.set (h.alloc (.cells #[.int .i64 home] 3)) k (.slice (some ⟨w.heap.size, 0, none⟩) 1 1)
  have hI : Own 3 ((w.alloc (.cells #[.int .i64 home] 3)).setCell ⟨g, k, none⟩ (.slice (some ⟨w.heap.size, 0, none⟩) 1 1)) 0 (.slice (some ⟨w.heap.size, 0, none⟩) 1 1) 1 encI [home] :=
    Own.far (Own.lit 3 w 0 1 encI [home] (fun _ => rfl) (Nat.zero_le _) (by simp)) (grown_setC _ _ _) (fun g' h1 e => by simp [Value.ownBlock] at h1; injection e with e; dsimp only at e; omega)
  refine ⟨_, hO, by rw [List.length_set, List.length_replicate, noneL_len], fun i s hs => ?_⟩
  have hin : i < n := by have := (List.getElem?_eq_some_iff.1 hs).1; rwa [noneL_len] at this
  rw [noneL_at hin] at hs
  injection hs with hs
  subst hs
  by_cases hik : i = k
  · subst hik
    refine ⟨.slice (some ⟨w.heap.size, 0, none⟩) 1 1, by rw [List.getElem?_set_self (by simpa using hkn)], by show Own _ _ _ _ _ _ _; unfold noneR; rw [if_pos hk.symm]; exact hI, fun u hu => ?_⟩
    rw [List.mem_singleton.1 hu]
    exact ⟨fun g' h1 h2 => by simp [Value.ownBlock] at h1 h2; omega, fun g' h1 => by simp [Value.ownBlock] at h1; simp; omega⟩
  · refine ⟨.slice none 0 0, by rw [List.getElem?_set_ne (fun e => hik e.symm)]; simp [hin], by show Own _ _ _ _ _ _ _; unfold noneR; rw [if_neg (by omega)]; exact Own.nil _ _ _ _ _, fun u hu => ?_⟩
    rw [List.mem_singleton.1 hu]
    exact ⟨fun g' h1 _ => by simp [Value.ownBlock] at h1, fun g' h1 => by simp [Value.ownBlock] at h1⟩
set_option maxHeartbeats 2000000 in
theorem nothing_any (n b : Nat) (home : Int) (w : World) (hn : n ≤ 1000) (h1 : 1 ≤ home) (h2 : home ≤ n) :
    Calls Try.prog 27 #[.agg #[.int .i64 n, .map (some b)], .int .i64 home] w fun e w' => ∃ (q : Nat) (u : Value), e = .returned (.pointer (some ⟨q, 0, none⟩)) ∧ w'.cell? ⟨q, 3, none⟩ = some u ∧ GOwn shF 40 w' w.heap.size u (noneL home n) ∧ Below w.heap.size w w' := by
  obtain ⟨k, rfl⟩ : ∃ k : Nat, home = (k : Int) + 1 := ⟨(home - 1).toNat, by omega⟩
  have hkn : k < n := by omega
  have hmk := make_rows n hn
  have hF := (Fb.start w).alloc [.int .i64 n, .map (some b)] 46
  have o := hF.own; simp only [World.size_alloc, World.size_drew, World.size_setCell, List.mem_cons, List.not_mem_nil, or_false, forall_eq_or_imp, forall_eq, At, and_true, Nat.zero_add, Nat.reduceAdd, List.set_cons_zero, List.set_cons_succ] at o
  have hO := (own_zarrV (w.alloc (.cells #[.int .i64 n, .map (some b)] 46)) w.heap.size n (by simp) (by omega)).alloc (.cells #[.int .i64 n, .map (some b), .int .i64 ((k : Int) + 1), .slice (some ⟨w.heap.size + 1, 0, none⟩) n n] 51) |>.drew
  simp only [World.size_alloc] at hO
  have hF2 := ((hF.other (.cells (zarrV n) 40)).alloc [.int .i64 n, .map (some b), .int .i64 ((k : Int) + 1), .slice (some ⟨w.heap.size + 1, 0, none⟩) n n] 51).drew
  simp only [World.size_alloc] at hF2
  go_enter Try.func27, Try.ntmps27
  go_upto_region 1 with (fail)
  go_region
  clear o hF hmk
  obtain ⟨wb, hwb⟩ : ∃ wb : World, wb = (((w.alloc (.cells #[.int .i64 n, .map (some b)] 46)).alloc (.cells (zarrV n) 40)).alloc (.cells #[.int .i64 n, .map (some b), .int .i64 ((k : Int) + 1), .slice (some ⟨w.heap.size + 1, 0, none⟩) n n] 51)).drew := ⟨_, rfl⟩
  rw [← hwb] at hO hF2 ⊢
  clear hwb
  obtain ⟨g, hg⟩ : ∃ g, w.heap.size + 1 = g := ⟨_, rfl⟩
  rw [hg] at hO hF2 ⊢
  obtain ⟨q, hq⟩ : ∃ q, g + 1 = q := ⟨_, rfl⟩
  rw [hq] at hF2 ⊢
  have hF := hF2
  have hgl := hO.lt g rfl
  have cg : wb.cell? ⟨g, k, none⟩ = some (.slice none 0 0) := by
    have := Rows.get (hO.rows (fun _ => rfl)) (k := k) (x := .slice none 0 0) (by simp [hkn]) (j := 0) rfl
    simpa using this
  have fg : wb.frozen? ⟨g, k, none⟩ = false := by
    have := hO
    unfold Own at this
    rw [List.length_replicate] at this
    exact World.ownsRow.frozenAt this k
  have hEnd := Lib.hid (none_own hO rfl hkn)
  have hK := Lib.hid ((hF2.other (.cells #[.int .i64 ((k : Int) + 1)] 3)).kp.setCell (show w.heap.size ≤ (⟨g, k, none⟩ : Addr).block by dsimp only; omega) (.slice (some ⟨wb.heap.size, 0, none⟩) 1 1))
  have o := hF.own; simp only [World.size_alloc, World.size_drew, World.size_setCell, List.mem_cons, List.not_mem_nil, or_false, forall_eq_or_imp, forall_eq, At, and_true, Nat.zero_add, Nat.reduceAdd, List.set_cons_zero, List.set_cons_succ] at o
  have c3 := Lib.hid (show ((wb.alloc (.cells #[.int .i64 ((k : Int) + 1)] 3)).setCell ⟨g, k, none⟩ (.slice (some ⟨wb.heap.size, 0, none⟩) 1 1)).cell? ⟨q, 3, none⟩ = some (.slice (some ⟨g, 0, none⟩) n n) by
    rw [World.cell?_setCell_other _ _ _ _ (by intro e; injection e; omega)]
    exact (World.cell?_of_block (w := wb) (Below.heap_alloc wb _ q o.1.2.2)).trans o.1.1.2.2.2.2.2.2.1)
  have hcm := World.setCell_alloc_past (w := wb) (.cells #[.int .i64 ((k : Int) + 1)] 3) g k (.slice (some ⟨wb.heap.size, 0, none⟩) 1 1) hgl
  rw [hcm] at c3 hEnd hK
  clear hcm
  have nqg : q ≠ g := by omega
  have ngq : g ≠ q := by omega
  clear hO hF2 hF hg
  go_wp2_with fail
  refine bodyPost_ret (v := .pointer (some ⟨q, 0, none⟩)) ?_ rfl ?_
  · simp [results, Try.results27, go_sem]
  · exact ⟨q, _, rfl, c3.out, hEnd.out, hK.out⟩
set_option maxHeartbeats 2000000 in
theorem iNetNone_any (v : Value) (M : List (List Int)) (home : Int) (w : World) (hM : Mat w v M) :
    Calls Try.prog 9 #[v, .int .i64 home] w fun e w' => ∃ u, e = .returned u ∧ GOwn shF 40 w' w.heap.size u (noneW M home) ∧ Below w.heap.size w w' := by
  go_enter Try.func9, Try.ntmps9
  by_cases k1 : RelsP M
  · have HC := Lib.hid (readRels_yes v M w hM k1)
    have hM5 := k1.2.2
    go_wp2_with fail
    refine HC.out.mono ?_; rintro e w1 ⟨b, rfl, hK, hb1⟩
    have hF := ((Fb.start w).below hb1).alloc [.int .i64 M.length, .map (some b)] 46
    have o := hF.own; simp only [World.size_alloc, World.size_drew, World.size_setCell, List.mem_cons, List.not_mem_nil, or_false, forall_eq_or_imp, forall_eq, At, and_true, Nat.zero_add, Nat.reduceAdd, List.set_cons_zero, List.set_cons_succ] at o
    go_wp2_with fail
    refine (rhas_any (M.length : Int) home (.map (some b)) _ rfl).mono ?_; rintro e w2 ⟨rfl, hb2⟩
    replace hF := hF.below hb2
    clear hb2 o
    by_cases k2 : Bts home 1 M.length
    · have d2 : decide (Bts home 1 (M.length : Int)) = true := by simp [k2]
      have hr : Hid (noneW M home = noneL home M.length) := noneW_yes k1 k2
      have h1 : 1 ≤ home := by unfold Bts at k2; omega
      have h2 : home ≤ M.length := by unfold Bts at k2; omega
      clear k2
      have o := hF.own; simp only [World.size_alloc, World.size_drew, World.size_setCell, List.mem_cons, List.not_mem_nil, or_false, forall_eq_or_imp, forall_eq, At, and_true, Nat.zero_add, Nat.reduceAdd, List.set_cons_zero, List.set_cons_succ] at o
      go_wp2_with fail
      refine (nothing_any M.length b home w2 (by omega) h1 h2).mono ?_; rintro e w3 ⟨q, u, rfl, c3, hO, hb3⟩
      have hsz := hF.kp.size
      replace hF := hF.below hb3
      clear o hb3
      go_wp2
      go_ret
      exact ⟨u, rfl, by rw [hr.out]; exact hO.base hsz, hF.kp⟩
    · have d2 : decide (Bts home 1 (M.length : Int)) = false := by simp [k2]
      have hr : Hid (noneW M home = []) := noneW_no (fun g => k2 g.2)
      clear k2
      go_wp2
      go_ret
      exact ⟨_, rfl, by rw [hr.out]; exact GOwn.nil _ _ _, hF.kp⟩
  · have HC := Lib.hid (readRels_no v M w hM k1)
    have hr : Hid (noneW M home = []) := noneW_no (fun g => k1 g.1)
    go_wp2_with fail
    refine HC.out.mono ?_; rintro e w1 ⟨rfl, hb1⟩
    have hF := ((Fb.start w).below hb1).alloc [.int .i64 0, .map none] 46
    go_wp2
    go_ret
    exact ⟨_, rfl, by rw [hr.out]; exact GOwn.nil _ _ _, hF.kp⟩
end Go.Proofs.Ytdemclnhdggmcaa
set_option linter.unusedSimpArgs false
set_option linter.unusedVariables false
namespace Go.Proofs.Ytdemclnhdggmcaa
open Go.RowKit Go.Maps Go.WideMaps

theorem flatI (L : List Int) : L.flatMap encI = L.map (Value.int .i64) := by induction L with
  | nil => rfl
  | cons x L ih => simp [List.flatMap_cons, encI, ih]
theorem OwnI.set {E : TypeId} {w : World} {B g n cap : Nat} {L : List Int} (h : Own E w B (.slice (some ⟨g, 0, none⟩) n cap) 1 encI L) (i : Nat) (x : Int) : Own E (w.setCell ⟨g, i, none⟩ (.int .i64 x)) B (.slice (some ⟨g, 0, none⟩) n cap) 1 encI (L.set i x) := by
  obtain ⟨ao, c, e⟩ := Own.sl h
  injection e with e1 e2 e3
  subst e2
  have := (World.ownsRow.stored h i (.int .i64 x)).1
  unfold Own
  rw [List.length_set, flatI, List.map_set, ← flatI]
  exact this
theorem OwnI.cell {E : TypeId} {w : World} {B g n cap : Nat} {L : List Int} (h : Own E w B (.slice (some ⟨g, 0, none⟩) n cap) 1 encI L) {i : Nat} {x : Int} (hx : L[i]? = some x) : w.cell? ⟨g, i, none⟩ = some (.int .i64 x) := by
  have := Rows.get (h.rows (fun _ => rfl)) hx (j := 0) rfl
  simpa using this
theorem OwnI.live {E : TypeId} {w : World} {B g n cap : Nat} {L : List Int} (h : Own E w B (.slice (some ⟨g, 0, none⟩) n cap) 1 encI L) (i : Nat) : w.frozen? ⟨g, i, none⟩ = false := by
  obtain ⟨ao, c, e⟩ := Own.sl h
  injection e with e1 e2 e3
  subst e2
  exact World.ownsRow.frozenAt h i
theorem make_intsB (n : Nat) (hn : n ≤ 2000000) (w : World) : (Instr.makeSlice 40 (.int .i64 n) (.int .i64 n)).run Try.prog w = .ok (.slice (some ⟨w.heap.size, 0, none⟩) n n) (w.alloc (.cells (zarr n) 3)) := by
  obtain ⟨j0, hj, hy0, hy1, hy2⟩ := info_parts infoInt
  have := run_make (P := Try.prog) w 40 3 j0 (.int .i64 0) Try.underlying40 hj hy0 .i64 .i64 n n (by omega) (Int.le_refl _) (by rw [hy2]; omega) (by omega)
  rw [hy1] at this
  simpa [zarr, Value.cells] using this
theorem make_rowsB (n : Nat) (hn : n ≤ 2000000) (w : World) : (Instr.makeSlice 22 (.int .i64 n) (.int .i64 n)).run Try.prog w = .ok (.slice (some ⟨w.heap.size, 0, none⟩) n n) (w.alloc (.cells (zarrV n) 40)) := by
  obtain ⟨j0, hj, hy0, hy1, hy2⟩ := info_parts infoRow
  have := run_make (P := Try.prog) w 22 40 j0 (.slice none 0 0) Try.underlying22 hj hy0 .i64 .i64 n n (by omega) (Int.le_refl _) (by rw [hy2]; omega) (by omega)
  rw [hy1] at this
  simpa [zarrV, Value.cells] using this
theorem own_zarrI (w : World) (B n : Nat) (hB : B ≤ w.heap.size) (hn : n ≤ 2000000) : Own 3 (w.alloc (.cells (zarr n) 3)) B (.slice (some ⟨w.heap.size, 0, none⟩) n n) 1 encI (List.replicate n 0) := by
  have hz : (zarr n).toList = List.replicate n (.int .i64 0) := toList_madeCells_one _ _
  have := World.ownsRow_lit (e := 3) (base := B) (size := 1) w (zarr n) n hB (le_maxLen (by omega)) (by unfold zarr; rw [size_madeCells]; omega)
  rw [hz] at this
  unfold Own
  rw [flatI, List.map_replicate, List.length_replicate]
  exact this
theorem own_zarrB (w : World) (B n : Nat) (hB : B ≤ w.heap.size) (hn : n ≤ 2000000) : Own 40 (w.alloc (.cells (zarrV n) 40)) B (.slice (some ⟨w.heap.size, 0, none⟩) n n) 1 encV (List.replicate n (.slice none 0 0)) := by
  have := World.ownsRow_lit (e := 40) (base := B) (size := 1) w (zarrV n) n hB (le_maxLen (by omega)) (by unfold zarrV; rw [size_madeCells]; omega)
  rw [zarrV_list] at this
  unfold Own
  rw [← flat_encV, List.length_replicate]
  exact this
theorem fill_step {α : Type} {L : List α} {k n : Nat} {x z : α} (hn : L.length = n) (hx : L[k]? = some x) : (L.take k ++ List.replicate (n - k) z).set k x = L.take (k + 1) ++ List.replicate (n - (k + 1)) z := by
  have hk : k < L.length := (List.getElem?_eq_some_iff.1 hx).1
  have h1 : (L.take k).length = k := by rw [List.length_take]; omega
  have h2 : n - k = (n - (k + 1)) + 1 := by omega
  rw [List.set_append_right _ _ (by omega), h1, Nat.sub_self, h2, List.replicate_succ, List.set_cons_zero, take_succ' hx, List.append_assoc]
  rfl
/-- How much is left of a measure. -/
def szI (P : List Int) (left : Int) : Int := if (P.length : Int) ≤ left then left - P.length else -1
theorem szIntS_any (v : Value) (P : List Int) (left : Int) (w : World) (h : Ints w v P) (h0 : 0 ≤ left) (h1 : left ≤ 1048576) :
    Calls Try.prog 20 #[v, .int .i64 left] w fun e w' => e = .returned (.int .i64 (szI P left)) ∧ Below w.heap.size w w' := by
  obtain ⟨ao, n, cap, rfl, hn, hnc, hcap⟩ := Ints.sl h
  have q : IntKind.i64.wrap (left - (n : Int)) = left - (n : Int) := IntWalk.i64_in _ (by omega)
  have hN := hn.out
  clear h
  go_enter Try.func20, Try.ntmps20
  by_cases hc : (n : Int) ≤ left
  · have e : Hid (szI P left = left - n) := by show _ = _; unfold szI; rw [if_pos (by omega), hN]
    have d : decide (left - (n : Int) < 0) = false := decide_eq_false (by omega)
    clear hc hN
    go_wp2
    go_ret
    exact ⟨by rw [e.out]; rfl, Below.refl _ _⟩
  · have e : Hid (szI P left = -1) := by show _ = _; unfold szI; rw [if_neg (by omega)]
    have d : decide (left - (n : Int) < 0) = true := decide_eq_true (by omega)
    clear hc hN
    go_wp2
    go_ret
    exact ⟨by rw [e.out]; rfl, Below.refl _ _⟩
/-- What a measure that was not used up tells. -/
def SzOk (M : List (List Int)) (r : Int) : Prop := r = -1 ∨ (0 ≤ r ∧ r ≤ 1048576 ∧ M.length ≤ 1048576 ∧ ∀ P ∈ M, P.length ≤ 1048576)
set_option maxHeartbeats 1000000 in
theorem szIntSS_any (v : Value) (M : List (List Int)) (left : Int) (w : World) (h : GLs shI w v M) (h0 : 0 ≤ left) (h1 : left ≤ 1048576) :
    Calls Try.prog 6 #[v, .int .i64 left] w fun e w' => ∃ r, e = .returned (.int .i64 r) ∧ SzOk M r ∧ Below w.heap.size w w' := by
  obtain ⟨ao, n, cap, rfl, hn, hnc, hcap⟩ := GLs.sl h
  have q : IntKind.i64.wrap (left - (n : Int)) = left - (n : Int) := IntWalk.i64_in _ (by omega)
  have HM := Lib.hid h
  clear h
  go_enter Try.func6, Try.ntmps6
  by_cases hc : (n : Int) ≤ left
  · have d : decide (left - (n : Int) < 0) = false := decide_eq_false (by omega)
    have hF := Fb.start w
    have hn1 : n ≤ 1048576 := by omega
    have h0' : 0 ≤ left - (n : Int) := by omega
    have h1' : left - (n : Int) ≤ 1048576 := by omega
    obtain ⟨l0, hl0⟩ : ∃ l0, left - (n : Int) = l0 := ⟨_, rfl⟩
    rw [hl0] at q d h0' h1'
    go_wp2
    go_loopw [5, 1] (fun i s wr => ∃ (k : Nat) (l : Int), k ≤ n ∧ i = .int .i64 k ∧ s = .int .i64 l ∧ 0 ≤ l ∧ l ≤ 1048576 ∧ Hid (∀ P ∈ M.take k, P.length ≤ 1048576) ∧ Fb w wr []) (fun i _ _ => n - (intOf i).toNat)
    case atStart => exact ⟨0, l0, Nat.zero_le _, rfl, rfl, h0', h1', fun P hP => by simp at hP, hF⟩
    case round =>
      clear hF h0' h1' d q hl0 h0 h1 hc
      obtain ⟨k, l, hk, rfl, rfl, g0, g1, hA, hF⟩ := hrel
      by_cases hlt : k < n
      · obtain ⟨b1, p1, rfl⟩ := GLs.adr HM.out (by omega)
        obtain ⟨P, hP⟩ := get_of hn.out hlt
        obtain ⟨a1, m1, c1, e1, i1, -, -, -⟩ := GLs.atI HM.out hP
        have x1 := hF.old e1
        have hp := Rows.below i1 hF.kp
        clear e1 i1
        go_wp2_with fail
        refine (szIntS_any _ P l _ hp g0 g1).mono ?_; rintro e w2 ⟨rfl, hb2⟩
        replace hF := hF.below hb2
        clear hb2 hp x1
        by_cases hz : (P.length : Int) ≤ l
        · have e : szI P l = l - P.length := by unfold szI; rw [if_pos hz]
          have d : decide (szI P l < 0) = false := decide_eq_false (by omega)
          have hA2 : Hid (∀ P ∈ M.take (k + 1), P.length ≤ 1048576) := fun R hR => by
            rw [take_succ' hP] at hR
            rcases List.mem_append.1 hR with hR | hR
            · exact hA.out R hR
            · rw [List.mem_singleton.1 hR]; omega
          have g2 : 0 ≤ szI P l := by omega
          have g3 : szI P l ≤ 1048576 := by omega
          clear e hz hP
          go_wp2
          go_roundw
          case rel => exact ⟨k + 1, _, by omega, by go_num, rfl, g2, g3, hA2, hF⟩
          case measure => simp [intOf]; omega
        · have e : szI P l = -1 := by unfold szI; rw [if_neg hz]
          rw [e]
          clear e hz hP
          go_wp2
          go_ret
          exact ⟨_, rfl, Or.inl rfl, hF.kp⟩
      · have hA2 : Hid (∀ P ∈ M, P.length ≤ 1048576) := fun R hR => hA.out R (by rwa [List.take_of_length_le (by have := hn.out; omega)])
        go_wp2
        go_ret
        exact ⟨_, rfl, Or.inr ⟨g0, g1, by rw [hn.out]; exact hn1, hA2.out⟩, hF.kp⟩
  · have d : decide (left - (n : Int) < 0) = true := decide_eq_true (by omega)
    clear hc
    go_wp2
    go_ret
    exact ⟨_, rfl, Or.inl rfl, Below.refl _ _⟩
set_option maxHeartbeats 1000000 in
theorem toIntS_any (v : Value) (P : List Int) (w : World) (h : Ints w v P) (hl : P.length ≤ 1048576) :
    Calls Try.prog 24 #[v] w fun e w' => ∃ g, e = .returned (.slice (some ⟨g, 0, none⟩) P.length P.length) ∧ w.heap.size ≤ g ∧ Own 3 w' w.heap.size (.slice (some ⟨g, 0, none⟩) P.length P.length) 1 encI P ∧ Below w.heap.size w w' := by
  obtain ⟨ao, n, cap, rfl, hn, hnc, hcap⟩ := Ints.sl h
  have HV := Lib.hid h
  rw [hn.out] at hl ⊢
  have hmk := make_intsB n (by omega)
  have hO := own_zarrI w w.heap.size n (Nat.le_refl _) (by omega)
  have hF := (Fb.start w).other (.cells (zarr n) 3)
  obtain ⟨g, hg⟩ : ∃ g, w.heap.size = g := ⟨_, rfl⟩
  rw [hg] at hO
  clear h
  go_enter Try.func24, Try.ntmps24
  go_wp2
  have HG := Lib.hid hg
  clear hg hmk
  go_loopw [4] (fun i wr => ∃ k : Nat, k ≤ n ∧ i = .int .i64 k ∧ Own 3 wr g (.slice (some ⟨g, 0, none⟩) n n) 1 encI (P.take k ++ List.replicate (n - k) 0) ∧ Fb w wr []) (fun i _ => n - (intOf i).toNat)
  case atStart => exact ⟨0, Nat.zero_le _, rfl, by simpa using hO, hF⟩
  case round =>
    clear hO hF
    obtain ⟨k, hk, rfl, hO, hF⟩ := hrel
    by_cases hlt : k < n
    · obtain ⟨b1, p1, rfl⟩ := Ints.some HV.out (by omega)
      obtain ⟨x, hx⟩ := get_of hn.out hlt
      have x1 := hF.old (Ints.get HV.out hx)
      obtain ⟨y, hy⟩ : ∃ y, (P.take k ++ List.replicate (n - k) 0)[k]? = some y := get_lt (by have := hn.out; simp; omega)
      have cy := OwnI.cell hO hy
      have ly := OwnI.live hO k
      have hO3 := OwnI.set hO k x
      rw [fill_step hn.out hx] at hO3
      have hF3 := hF.setAway ⟨g, k, none⟩ (.int .i64 x) (by dsimp only; have := HG.out; omega) (by simp)
      clear hO hF hy
      go_wp2
      go_roundw
      case rel => exact ⟨k + 1, by omega, by go_num, hO3, hF3⟩
      case measure => simp [intOf]; omega
    · have hkn : k = n := by omega
      subst hkn
      rw [Nat.sub_self, List.replicate_zero, List.append_nil, List.take_of_length_le (by have := hn.out; omega)] at hO
      go_wp2
      go_ret
      exact ⟨g, rfl, by have := HG.out; omega, by rw [HG.out]; exact hO, hF.kp⟩
set_option maxHeartbeats 2000000 in
theorem toIntSS_any (v : Value) (M : List (List Int)) (w : World) (h : GLs shI w v M) (hl : M.length ≤ 1048576) (hr : ∀ P ∈ M, P.length ≤ 1048576) :
    Calls Try.prog 8 #[v] w fun e w' => ∃ u, e = .returned u ∧ GOwn shF 40 w' w.heap.size u M ∧ Below w.heap.size w w' := by
  obtain ⟨ao, n, cap, rfl, hn, hnc, hcap⟩ := GLs.sl h
  have HV := Lib.hid h
  have HR := Lib.hid hr
  rw [hn.out] at hl
  have hmk := make_rowsB n (by omega)
  have hO := own_zarrB w w.heap.size n (Nat.le_refl _) (by omega)
  have hF := (Fb.start w).other (.cells (zarrV n) 40)
  obtain ⟨g, hg⟩ : ∃ g, w.heap.size = g := ⟨_, rfl⟩
  rw [hg] at hO
  clear h hr
  go_enter Try.func8, Try.ntmps8
  go_wp2
  have HG := Lib.hid hg
  clear hg hmk
  go_loopw [4] (fun i wr => ∃ (k : Nat) (vs : List Value), k ≤ n ∧ i = .int .i64 k ∧ Own 40 wr g (.slice (some ⟨g, 0, none⟩) n n) 1 encV vs ∧ vs.length = n ∧ GRel shF wr (g + 1) wr.heap.size (.slice (some ⟨g, 0, none⟩) n n) (vs.take k) (M.take k) ∧ Fb w wr []) (fun i _ => n - (intOf i).toNat)
  case atStart => exact ⟨0, _, Nat.zero_le _, rfl, hO, by simp, ⟨rfl, fun j s hs => by simp at hs⟩, hF⟩
  case round =>
    clear hO hF
    obtain ⟨k, vs, hk, rfl, hO, hvs, hG, hF⟩ := hrel
    by_cases hlt : k < n
    · obtain ⟨b1, p1, rfl⟩ := GLs.adr HV.out (by omega)
      obtain ⟨P, hP⟩ := get_of hn.out hlt
      obtain ⟨a1, m1, c1, e1, i1, -, -, -⟩ := GLs.atI HV.out hP
      have x1 := hF.old e1
      have hp := Rows.below i1 hF.kp
      have hpl := Lib.hid (HR.out P (List.mem_of_getElem? hP))
      have hgl := hO.lt g rfl
      clear e1 i1
      go_wp2_with fail
      refine (toIntS_any _ P _ hp hpl.out).mono ?_; rintro e w2 ⟨g2, rfl, hg2, hO2, hb2⟩
      replace hF := hF.below hb2
      replace hO := hO.below hb2
      replace hG := (hG.below hb2).mono (Nat.le_refl _) hb2.size
      obtain ⟨y, hy⟩ := get_of hvs hlt
      have cy := OwnV.cell hO hy
      have ly := OwnV.live hO k
      have hO3 := OwnV.set hO k (.slice (some ⟨g2, 0, none⟩) P.length P.length)
      have hF3 := hF.setAway ⟨g, k, none⟩ (.slice (some ⟨g2, 0, none⟩) P.length P.length) (by dsimp only; have := HG.out; omega) (by simp)
      have hv3 : (vs.set k (.slice (some ⟨g2, 0, none⟩) P.length P.length)).length = n := by simp [hvs]
      have hlt2 := hO2.lt g2 rfl
      have hG3 : GRel shF (w2.setCell ⟨g, k, none⟩ (.slice (some ⟨g2, 0, none⟩) P.length P.length)) (g + 1) (w2.setCell ⟨g, k, none⟩ (.slice (some ⟨g2, 0, none⟩) P.length P.length)).heap.size (.slice (some ⟨g, 0, none⟩) n n) ((vs.set k (.slice (some ⟨g2, 0, none⟩) P.length P.length)).take (k + 1)) (M.take (k + 1)) := by
        rw [take_succ' hP, take_succ' (x := .slice (some ⟨g2, 0, none⟩) P.length P.length) (by simp [hvs, hlt]), List.take_set_of_le (Nat.le_refl k), World.size_setCell]
        refine GRel.append (hG.far (grown_setC _ _ _) (fun g' h1 _ e => by injection e with e; dsimp only at e; omega)) (GRel.single (S := shF) ?_ ?_)
        · exact Own.far (hO2.base (Nat.zero_le _)) (grown_setC _ _ _) (fun g' h1 e => by simp [Value.ownBlock] at h1; injection e with e; dsimp only at e; omega)
        · intro u hu
          rw [List.mem_singleton.1 hu]
          exact ⟨fun g' h1 h2 => by simp [Value.ownBlock] at h1 h2; omega, fun g' h1 => by simp [Value.ownBlock] at h1; omega⟩
      clear hO hF hy hb2 hO2 hp x1 hG hP hlt2 hg2 hgl
      go_wp2
      go_roundw
      case rel => exact ⟨k + 1, _, by omega, by go_num, hO3, hv3, hG3, hF3⟩
      case measure => simp [intOf]; omega
    · have hkn : k = n := by omega
      subst hkn
      rw [List.take_of_length_le (by omega), List.take_of_length_le (by have := hn.out; omega)] at hG
      go_wp2
      go_ret
      exact ⟨_, rfl, ⟨vs, by rw [HG.out]; exact hO, by rw [HG.out]; exact hG.mono (Nat.le_succ _) (Nat.le_refl _)⟩, hF.kp⟩
set_option maxHeartbeats 2000000 in
theorem eqIntS_any (v1 v2 : Value) (L K : List Int) (w : World) (h1 : Ints w v1 L) (h2 : Ints w v2 K) :
    Calls Try.prog 28 #[v1, v2] w fun e w' => e = .returned (.bool (decide (L = K))) ∧ Below w.heap.size w w' := by
  have hF := Fb.start w
  obtain ⟨ao, n, cap, rfl, hn, hnc, hcap⟩ := Ints.sl h1
  obtain ⟨bo, m, cap2, rfl, hm, hmc, hcap2⟩ := Ints.sl h2
  have HL := Lib.hid h1
  have HK := Lib.hid h2
  clear h1 h2
  go_enter Try.func28, Try.ntmps28
  by_cases hnm : n = m
  · subst hnm
    have d1 : ((n : Int) != (n : Int)) = false := by simp
    go_wp2
    go_loopw [5] (fun i wr => ∃ k : Nat, k ≤ n ∧ i = .int .i64 k ∧ Hid (L.take k = K.take k) ∧ Fb w wr []) (fun i _ => n - (intOf i).toNat)
    case atStart => exact ⟨0, Nat.zero_le _, rfl, by show _ = _; simp, hF⟩
    case round =>
      clear hF
      obtain ⟨k, hk, rfl, ht, hF⟩ := hrel
      by_cases hlt : k < n
      · obtain ⟨b1, p1, rfl⟩ := Ints.some HL.out (by omega)
        obtain ⟨b2, p2, rfl⟩ := Ints.some HK.out (by omega)
        obtain ⟨s, hs⟩ := get_of hn.out hlt
        obtain ⟨t, ht2⟩ := get_of hm.out hlt
        have e1 := Ints.get HL.out hs
        have e2 := Ints.get HK.out ht2
        have x1 := fun z : Cl wr.heap.size wr => Cl.old hF z e1
        have x2 := fun z : Cl wr.heap.size wr => Cl.old hF z e2
        clear e1 e2
        by_cases hst : s = t
        · have hA := Lib.hid (tkW_eq ht.out hs ht2 hst)
          have dst : (s != t) = false := by simp [hst]
          clear hst hs ht2
          go_wp2
          first | refine wp_region_new (by kernel_rfl) (by kernel_rfl) ?_ | refine wp_region_lex ?_
          repeat (any_goals (first | go_big_quiet_step ((fail)) | (refine wpQuiet_step (fun K hK => ?_); go_simp; split <;> (rename_i hg; refine hK _ ?_; clear hK K; simp only [hg, decide_true, decide_false]))))
          all_goals (refine wpQuiet_nil ?_; intro x)
          go_wp2
          go_roundw
          case rel => exact ⟨k + 1, by omega, by go_num, hA, hF.cl x⟩
          case measure => simp [intOf]; omega
        · have hA := Lib.hid (tkW_ne hs ht2 hst)
          have dst : (s != t) = true := by simp [hst]
          clear hst hs ht2
          go_wp2
          first | refine wp_region_new (by kernel_rfl) (by kernel_rfl) ?_ | refine wp_region_lex ?_
          repeat (any_goals (first | go_big_quiet_step ((fail)) | (refine wpQuiet_step (fun K hK => ?_); go_simp; split <;> (rename_i hg; refine hK _ ?_; clear hK K; simp only [hg, decide_true, decide_false]))))
          all_goals (refine wpQuiet_nil ?_; intro x)
          go_wp2
          go_ret
          exact ⟨by rw [hA.out]; rfl, (hF.cl x).kp⟩
      · have hA := Lib.hid (tkW_end ht.out hn.out hm.out (by omega))
        go_wp2
        go_ret
        exact ⟨by rw [hA.out]; rfl, hF.kp⟩
  · have d1 : ((n : Int) != (m : Int)) = true := by simp; omega
    have hA := Lib.hid (tkW_len hn.out hm.out hnm)
    clear hnm
    go_wp2
    go_ret
    exact ⟨by rw [hA.out]; rfl, hF.kp⟩
set_option maxHeartbeats 2000000 in
theorem eqIntSS_any (v1 v2 : Value) (L K : List (List Int)) (w : World) (h1 : GLs shI w v1 L) (h2 : GLs shI w v2 K) :
    Calls Try.prog 10 #[v1, v2] w fun e w' => e = .returned (.bool (decide (L = K))) ∧ Below w.heap.size w w' := by
  have hF := Fb.start w
  obtain ⟨ao, n, cap, rfl, hn, hnc, hcap⟩ := GLs.sl h1
  obtain ⟨bo, m, cap2, rfl, hm, hmc, hcap2⟩ := GLs.sl h2
  have HL := Lib.hid h1
  have HK := Lib.hid h2
  clear h1 h2
  go_enter Try.func10, Try.ntmps10
  by_cases hnm : n = m
  · subst hnm
    have d1 : ((n : Int) != (n : Int)) = false := by simp
    go_wp2
    go_loopw [5] (fun i wr => ∃ k : Nat, k ≤ n ∧ i = .int .i64 k ∧ Hid (L.take k = K.take k) ∧ Fb w wr []) (fun i _ => n - (intOf i).toNat)
    case atStart => exact ⟨0, Nat.zero_le _, rfl, by show _ = _; simp, hF⟩
    case round =>
      clear hF
      obtain ⟨k, hk, rfl, ht, hF⟩ := hrel
      by_cases hlt : k < n
      · obtain ⟨b1, p1, rfl⟩ := GLs.adr HL.out (by omega)
        obtain ⟨b2, p2, rfl⟩ := GLs.adr HK.out (by omega)
        obtain ⟨s, hs⟩ := get_of hn.out hlt
        obtain ⟨t, ht2⟩ := get_of hm.out hlt
        obtain ⟨a1, m1, c1, e1, i1, -, -, -⟩ := GLs.atI HL.out hs
        obtain ⟨a2, m2, c2, e2, i2, -, -, -⟩ := GLs.atI HK.out ht2
        obtain ⟨C, hC⟩ : ∃ C, decide (s = t) = C := ⟨_, rfl⟩
        have hCz := Lib.hid (fun z : Cl wr.heap.size wr => (show Calls Try.prog 28 #[.slice a1 m1 c1, .slice a2 m2 c2] z.W fun e w' => e = .returned (.bool C) ∧ Below z.W.heap.size z.W w' from by have := eqIntS_any _ _ s t z.W (Rows.below i1 (hF.cl z).kp) (Rows.below i2 (hF.cl z).kp); rwa [hC] at this))
        have x1 := fun z : Cl wr.heap.size wr => Cl.old hF z e1
        have x2 := fun z : Cl wr.heap.size wr => Cl.old hF z e2
        clear e1 e2 i1 i2
        cases C with
        | true =>
          have hA := Lib.hid (tkW_eq ht.out hs ht2 (of_decide_eq_true hC))
          clear hC hs ht2
          go_wp2
          first | refine wp_region_new (by kernel_rfl) (by kernel_rfl) ?_ | refine wp_region_lex ?_
          repeat (any_goals (first | go_big_quiet_step (((go_at_call 28; exact Calls.cl (hCz.out _)))) | (refine wpQuiet_step (fun K hK => ?_); go_simp; split <;> (rename_i hg; refine hK _ ?_; clear hK K; simp only [hg, decide_true, decide_false]))))
          all_goals (refine wpQuiet_nil ?_; intro x)
          go_wp2
          go_roundw
          case rel => exact ⟨k + 1, by omega, by go_num, hA, hF.cl x⟩
          case measure => simp [intOf]; omega
        | false =>
          have hA := Lib.hid (tkW_ne hs ht2 (of_decide_eq_false hC))
          clear hC hs ht2
          go_wp2
          first | refine wp_region_new (by kernel_rfl) (by kernel_rfl) ?_ | refine wp_region_lex ?_
          repeat (any_goals (first | go_big_quiet_step (((go_at_call 28; exact Calls.cl (hCz.out _)))) | (refine wpQuiet_step (fun K hK => ?_); go_simp; split <;> (rename_i hg; refine hK _ ?_; clear hK K; simp only [hg, decide_true, decide_false]))))
          all_goals (refine wpQuiet_nil ?_; intro x)
          go_wp2
          go_ret
          exact ⟨by rw [hA.out]; rfl, (hF.cl x).kp⟩
      · have hA := Lib.hid (tkW_end ht.out hn.out hm.out (by omega))
        go_wp2
        go_ret
        exact ⟨by rw [hA.out]; rfl, hF.kp⟩
  · have d1 : ((n : Int) != (m : Int)) = true := by simp; omega
    have hA := Lib.hid (tkW_len hn.out hm.out hnm)
    clear hnm
    go_wp2
    go_ret
    exact ⟨by rw [hA.out]; rfl, hF.kp⟩
theorem eqIntSS_same (v1 v2 : Value) (L : List (List Int)) (w : World) (h1 : GLs shI w v1 L) (h2 : GLs shI w v2 L) :
    Calls Try.prog 10 #[v1, v2] w fun e w' => e = .returned (.bool true) ∧ Below w.heap.size w w' := by
  have := eqIntSS_any v1 v2 L L w h1 h2
  rwa [decide_eq_true rfl] at this
end Go.Proofs.Ytdemclnhdggmcaa
set_option linter.unusedSimpArgs false
set_option linter.unusedVariables false
namespace Go.Proofs.Ytdemclnhdggmcaa
open Go.RowKit Go.Maps Go.WideMaps

theorem Own.form {α : Type} {E : TypeId} {w : World} {B : Nat} {v : Value} {sz : Nat} {enc : α → List Value} {L : List α} (h : Own E w B v sz enc L) : (v = .slice none 0 0 ∧ L.length = 0) ∨ ∃ g cap, v = .slice (some ⟨g, 0, none⟩) L.length cap := by
  obtain ⟨h1, ⟨rfl, h2⟩ | ⟨g, cap, cur, rfl, h2, h3⟩⟩ := h
  · exact Or.inl ⟨rfl, h2⟩
  · exact Or.inr ⟨_, _, rfl⟩
/-- The marks from k on. -/
def marks (k : Int) (n : Nat) : List Int := (List.range n).map (fun (j : Nat) => k + (j : Int))
theorem marks_len (k : Int) (n : Nat) : (marks k n).length = n := by simp [marks]
theorem marks_at {k : Int} {n j : Nat} (h : j < n) : (marks k n)[j]? = some (k + (j : Int)) := by simp [marks, h]
theorem marks_succ (k : Int) (n : Nat) : marks k (n + 1) = marks k n ++ [k + (n : Int)] := by simp [marks, List.range_succ]
theorem mark_step {P : List Int} {k : Int} {j : Nat} (h : j < P.length) : (marks k j ++ P.drop j).set j (k + (j : Int)) = marks k (j + 1) ++ P.drop (j + 1) := by
  have h1 := marks_len k j
  rw [List.set_append_right _ _ (by omega), h1, Nat.sub_self, marks_succ, List.append_assoc, List.drop_eq_getElem_cons h, List.set_cons_zero]
  rfl
/-- The row lies in blocks B to U, and reads as the list; what its elements hold too. -/
structure GB {δ β : Type} (S : Sh δ β) (E : TypeId) (w : World) (B U : Nat) (v : Value) (ds : List δ) (L : List β) : Prop where
  own : Own E w B v S.sz S.enc ds
  lt : ∀ g, v.ownBlock = some g → g < U
  rel : GRel S w B U v ds L
theorem GOwn.gb {δ β : Type} {S : Sh δ β} {E : TypeId} {w : World} {B : Nat} {v : Value} {L : List β} (h : GOwn S E w B v L) : ∃ ds, GB S E w B w.heap.size v ds L := by
  obtain ⟨ds, h1, h2⟩ := h
  exact ⟨ds, h1, h1.lt, h2⟩
theorem GB.below {δ β : Type} {S : Sh δ β} {E : TypeId} {w w' : World} {B U : Nat} {v : Value} {ds : List δ} {L : List β} (h : GB S E w B U v ds L) (K : Below w.heap.size w w') : GB S E w' B U v ds L := ⟨h.own.below K, h.lt, h.rel.below K⟩
theorem GB.set {δ β : Type} {S : Sh δ β} {E : TypeId} {w : World} {B U : Nat} {v : Value} {ds : List δ} {L : List β} (h : GB S E w B U v ds L) (a : Addr) (u : Value) (ha : a.block < B ∨ U ≤ a.block) : GB S E (w.setCell a u) B U v ds L :=
  ⟨Own.far h.own (grown_setC w a u) (fun g hg e => by injection e with e; have := h.lt g hg; have := h.own.ge g hg; omega), h.lt, h.rel.far (grown_setC w a u) (fun g h1 h2 e => by injection e with e; omega)⟩
theorem GB.gls {δ β : Type} {S : Sh δ β} {E : TypeId} {w : World} {B U : Nat} {v : Value} {ds : List δ} {L : List β} (h : GB S E w B U v ds L) : GLs S w v L :=
  ⟨ds, h.own.rows S.len, h.rel.1, fun k s hk => by obtain ⟨d, a, b, -⟩ := h.rel.2 k s hk; exact ⟨d, a, b⟩⟩
set_option maxHeartbeats 1000000 in
theorem markIntS_any (u : Value) (P : List Int) (k : Int) (B : Nat) (w : World) (hO : Own 3 w B u 1 encI P) (Q : World → Prop) (hQ0 : Q w) (hQ : ∀ w' g i y, Q w' → i < P.length → u.ownBlock = some g → Q (w'.setCell ⟨g, i, none⟩ (.int .i64 y))) (h0 : 0 ≤ k) (h1 : k + (P.length : Int) ≤ 4611686018427387904) :
    Calls Try.prog 29 #[u, .int .i64 k] w fun e w' => e = .returned (.int .i64 (k + (P.length : Int))) ∧ Q w' ∧ Own 3 w' B u 1 encI (marks k P.length) := by
  obtain ⟨ao, cap, rfl⟩ := hO.sl
  have hf := Lib.hid hO.form
  obtain ⟨n, hn⟩ : ∃ n, Hid (P.length = n) := ⟨_, rfl⟩
  have HQ := Lib.hid hQ
  clear hQ
  rw [hn.out] at h1 hf hO ⊢
  go_enter Try.func29, Try.ntmps29
  go_wp2
  go_loopw [5, 1] (fun i s wr => ∃ j : Nat, j ≤ n ∧ i = .int .i64 j ∧ s = .int .i64 (k + (j : Int)) ∧ Own 3 wr B (.slice ao n cap) 1 encI (marks k j ++ P.drop j) ∧ Hid (Q wr)) (fun i _ _ => n - (intOf i).toNat)
  case atStart => exact ⟨0, Nat.zero_le _, rfl, by simp, by simpa [marks] using hO, hQ0⟩
  case round =>
    clear hO hQ0
    obtain ⟨j, hj, rfl, rfl, hO, hq⟩ := hrel
    by_cases hlt : j < n
    · rcases hf.out with ⟨e, e0⟩ | ⟨g, cap', e⟩
      · omega
      · injection e with e1 e2 e3
        subst e1; subst e3
        obtain ⟨y, hy⟩ : ∃ y, (marks k j ++ P.drop j)[j]? = some y := get_lt (by have := hn.out; simp [marks_len]; omega)
        have cy := OwnI.cell hO hy
        have ly := OwnI.live hO j
        have hO3 := OwnI.set hO j (k + (j : Int))
        rw [mark_step (by have := hn.out; omega)] at hO3
        have hq3 := Lib.hid (HQ.out _ g j (k + (j : Int)) hq.out (by have := hn.out; omega) rfl)
        have q1 : IntKind.i64.wrap (k + (j : Int) + 1) = k + ((j : Int) + 1) := by rw [show k + (j : Int) + 1 = k + ((j : Int) + 1) by omega]; exact IntWalk.i64_in _ (by omega)
        clear hO hy hq
        go_wp2
        go_roundw
        case rel => exact ⟨j + 1, by omega, by go_num, by simp, hO3, hq3⟩
        case measure => simp [intOf]; omega
    · have hkn : j = n := by omega
      subst hkn
      rw [List.drop_eq_nil_of_le (by have := hn.out; omega), List.append_nil] at hO
      go_wp2
      go_ret
      exact ⟨rfl, hq.out, hO⟩
set_option maxHeartbeats 1000000 in
theorem heldIntS_yes (u : Value) (n : Nat) (k : Int) (w : World) (h : Ints w u (marks k n)) (h0 : 0 ≤ k) (h1 : k + (n : Int) ≤ 4611686018427387904) :
    Calls Try.prog 30 #[u, .int .i64 k] w fun e w' => e = .returned (.int .i64 (k + (n : Int))) ∧ Below w.heap.size w w' := by
  obtain ⟨ao, n', cap, rfl, hn, hnc, hcap⟩ := Ints.sl h
  have hnn : n' = n := by have := hn.out; rw [marks_len] at this; exact this.symm
  subst hnn
  have HL := Lib.hid h
  have hF := Fb.start w
  clear h hn
  go_enter Try.func30, Try.ntmps30
  go_wp2
  go_loopw [5, 1] (fun i s wr => ∃ j : Nat, j ≤ n' ∧ i = .int .i64 j ∧ s = .int .i64 (k + (j : Int)) ∧ Fb w wr []) (fun i _ _ => n' - (intOf i).toNat)
  case atStart => exact ⟨0, Nat.zero_le _, rfl, by simp, hF⟩
  case round =>
    clear hF
    obtain ⟨j, hj, rfl, rfl, hF⟩ := hrel
    by_cases hlt : j < n'
    · obtain ⟨b1, p1, rfl⟩ := Ints.some HL.out (by omega)
      have x1 := hF.old (Ints.get HL.out (marks_at hlt))
      have d1 : ((k + (j : Int)) != (k + (j : Int))) = false := by simp
      have q1 : IntKind.i64.wrap (k + (j : Int) + 1) = k + ((j : Int) + 1) := by rw [show k + (j : Int) + 1 = k + ((j : Int) + 1) by omega]; exact IntWalk.i64_in _ (by omega)
      go_wp2
      go_roundw
      case rel => exact ⟨j + 1, by omega, by go_num, by simp, hF⟩
      case measure => simp [intOf]; omega
    · have hkn : j = n' := by omega
      subst hkn
      go_wp2
      go_ret
      exact ⟨rfl, hF.kp⟩
end Go.Proofs.Ytdemclnhdggmcaa
