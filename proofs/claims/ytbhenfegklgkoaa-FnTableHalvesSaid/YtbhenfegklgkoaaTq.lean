/- Tables: an entry put in at a place (the library's Insert). -/
import Derived.Test.YtbhenfegklgkoaaTg
import Derived.Shelf.Spec.SlicesInsert
import Derived.Lib.AppendZerosOnto
import Derived.Laws.NewBlocks
import Derived.Laws.CopyOwn
set_option linter.unusedSimpArgs false
set_option linter.unusedVariables false
namespace Go.Proofs.Ytbhenfegklgkoaa
open Go.RowKit Go.Lib

theorem run_copy_rowN {P : Program} (w : World) (dT sT ty elem : TypeId) (g o dLen dCap : Nat) (a : Addr) (sLen sCap sz : Nat) (cur : Array Value) (t : TypeId) (cs : List Value)
    (hu : P.underlying dT = some (.slice elem)) (hs : (P.info? elem).map (·.size) = some sz)
    (hg : w.heap[g]? = some (.cells cur t (0, 0))) (hn : cs.length = Nat.min sLen dLen * sz)
    (hsrc : ∀ j v, cs[j]? = some v → w.cell? (a.add j) = some v) (hfit : o + cs.length ≤ cur.size) (h1 : ∀ v ∈ cs, v.oneCell' = true) :
    (Builtin.copy_ #[dT, sT] ty #[.slice (some ⟨g, o, none⟩) dLen dCap, .slice (some a) sLen sCap]).run P w =
      .ok (goInt (Nat.min sLen dLen)) (w.setRow g (cur.toList.take o ++ cs ++ cur.toList.drop (o + cs.length)).toArray) := by
  have hl := run_loadCells_list (P := P) w a cs hsrc
  have hst := run_storeCells_at P g o t cs 0 cur w hg (by simpa using hfit) h1
  cases hq : P.info? elem with
  | none => simp [hq] at hs
  | some i =>
    have hi : i.size = sz := by simpa [hq] using hs
    simp [Builtin.copy_, run_underlying hu, Builtin.lenOf, Builtin.firstCells, sizeOf, typeInfo, hq, hi, ← hn, hl, hst]
theorem ent_one : ∀ (L : List Ent), ∀ u ∈ L.flatMap encE, u.oneCell' = true := fun L u hu => by
  obtain ⟨x, _, hx⟩ := List.mem_flatMap.1 hu
  simp [encE] at hx; rcases hx with rfl | rfl | rfl <;> rfl
theorem flat3 (L : List Ent) : (L.flatMap encE).length = L.length * 3 := flat_len (enc := encE) (sz := 3) (fun _ => rfl) L
/-- The cells, written in this order or in that. -/
theorem lay_g {R : List Value} {E D : List Value} {o : Nat} (hR : o + E.length + D.length ≤ R.length) (ho : o ≤ R.length) :
    ((((R.take o ++ E ++ R.drop (o + E.length)).take (o + E.length)) ++ D ++ (R.take o ++ E ++ R.drop (o + E.length)).drop (o + E.length + D.length))).take (o + E.length + D.length) = R.take o ++ E ++ D := by
  have h1 : (R.take o ++ E).length = o + E.length := by simp; omega
  rw [show (R.take o ++ E ++ R.drop (o + E.length)).take (o + E.length) = R.take o ++ E by rw [← h1]; exact List.take_left]
  rw [show o + E.length + D.length = (R.take o ++ E ++ D).length by rw [List.length_append, h1]]
  exact List.take_left
theorem lay_s {R : List Value} {E D : List Value} {o : Nat} (hR : o + E.length + D.length ≤ R.length) (R1 : List Value) (h1 : R1 = R.take (o + E.length) ++ D ++ R.drop (o + E.length + D.length)) :
    (R1.take o ++ E ++ R1.drop (o + E.length)).take (o + E.length + D.length) = R.take o ++ E ++ D := by
  have hl : (R.take (o + E.length)).length = o + E.length := by simp; omega
  have e1 : R1.take o = R.take o := by
    rw [h1, List.append_assoc, List.take_append_of_le_length (by rw [hl]; omega), List.take_take, Nat.min_eq_left (by omega)]
  have e2 : R1.drop (o + E.length) = D ++ R.drop (o + E.length + D.length) := by
    rw [h1, List.append_assoc]
    exact List.drop_left' hl
  rw [e1, e2, ← List.append_assoc]
  have h3 : (R.take o ++ E ++ D).length = o + E.length + D.length := by simp; omega
  rw [← h3]; exact List.take_left
set_option maxHeartbeats 1000000 in
/-- At the end. -/
theorem InsEnd_any (v : Value) (T : List Ent) (f b g : Int) (B be : Nat) (w : World) (hO : Own 29 w B v 3 encE T) (hT : T.length ≤ 100) (hB : B ≤ w.heap.size) (hbe : w.heap[be]? = some (.cells #[.int .i64 f, .int .i64 b, .int .i64 g] 29 (0, 0))) :
    Calls Try.prog 61 #[v, .int .i64 T.length, .slice (some ⟨be, 0, none⟩) 1 1] w fun e w' => ∃ u, e = .returned u ∧ Own 29 w' B u 3 encE (T ++ [(f, b, g)]) ∧ Below B w w' := by
  have hK : Hid (Rows w (.slice (some ⟨be, 0, none⟩) 1 1) 3 encE [((f, b, g) : Ent)]) := by
    refine ⟨⟨some ⟨be, 0, none⟩, 1, rfl, by simp, by omega, fun k x hk => ⟨be, 0, rfl, fun j u hj => ?_⟩⟩⟩
    have hk0 : k = 0 := by
      have := (List.getElem?_eq_some_iff.1 hk).1
      simp at this; exact this
    subst hk0
    simp at hk; subst hk
    unfold World.cell?
    simp only [hbe]
    simpa [encE] using hj
  obtain ⟨ao, c, hsl⟩ := hO.sl
  subst hsl
  obtain ⟨n, hn⟩ : ∃ n, Hid (T.length = n) := ⟨_, rfl⟩
  rw [hn.out] at hO hT ⊢
  obtain ⟨_, hcases⟩ := id hO
  have hnc : n ≤ c ∧ c ≤ 9223372036854775807 ∧ (ao = none → n = 0 ∧ c = 0) := by
    rcases hcases with ⟨e1, e2⟩ | ⟨g', cap, cur, e1, _, _, h4, h5, _⟩
    · injection e1 with e1 e3 e4; subst e3; subst e4; exact ⟨by omega, by omega, fun _ => ⟨rfl, rfl⟩⟩
    · injection e1 with e1 e3 e4; subst e3; subst e4; exact ⟨h4, by unfold maxLen at h5; omega, fun e => by rw [e1] at e; cases e⟩
  obtain ⟨h1, h2, h3⟩ := hnc
  have HO := Lib.hid hO
  clear hO hcases
  cases ao with
  | none =>
    obtain ⟨rfl, rfl⟩ := h3 rfl
    clear h3
    go_enter Try.func61, Try.ntmps61
    go_wp2_with (at_builtin; refine wpList_apps rfl _ _ 23 rfl 29 (.agg #[.int .i64 0, .int .i64 0, .int .i64 0]) 3 24 Try.underlying23 infoEnt rfl (by decide) (by decide) B encE (fun _ => rfl) (fun _ u hu => by simp [encE] at hu; rcases hu with rfl | rfl | rfl <;> rfl) _ T rfl HO.out be 0 1 1 [((f, b, g) : Ent)] rfl hK.out (by rw [hn.out]; omega) hB ?_; intro v' wx hO1 hg1 hb1 hf1 hz1)
    go_ret
    exact ⟨_, rfl, hO1, hb1⟩
  | some aa =>
    clear h3
    go_enter Try.func61, Try.ntmps61
    go_wp2_with (at_builtin; refine wpList_apps rfl _ _ 23 rfl 29 (.agg #[.int .i64 0, .int .i64 0, .int .i64 0]) 3 24 Try.underlying23 infoEnt rfl (by decide) (by decide) B encE (fun _ => rfl) (fun _ u hu => by simp [encE] at hu; rcases hu with rfl | rfl | rfl <;> rfl) _ T rfl HO.out be 0 1 1 [((f, b, g) : Ent)] rfl hK.out (by rw [hn.out]; omega) hB ?_; intro v' wx hO1 hg1 hb1 hf1 hz1)
    all_goals go_ret
    all_goals exact ⟨_, rfl, hO1, hb1⟩
theorem rowO {E : TypeId} {w : World} {B n c : Nat} {aa : Addr} {T : List Ent} (h : Own E w B (.slice (some aa) n c) 3 encE T) : ∃ g cur, aa = ⟨g, 0, none⟩ ∧ B ≤ g ∧ g < w.heap.size ∧ w.heap[g]? = some (.cells cur E (0, 0)) ∧ T.length = n ∧ n ≤ c ∧ c ≤ maxLen ∧ cur.size = c * 3 ∧ cur.toList.take (n * 3) = T.flatMap encE := by
  obtain ⟨_, ⟨e1, _⟩ | ⟨g, cap, cur, e1, h2, h3, h4, h5, h6, h7⟩⟩ := h
  · cases e1
  · injection e1 with e1 e2 e3
    injection e1 with e1
    subst e3
    refine ⟨g, cur, e1, h2, (Array.getElem?_eq_some_iff.1 h3).1, h3, e2.symm, by omega, h5, h6, by rw [e2]; exact h7⟩
theorem ownOf {E : TypeId} {w : World} {B n c g : Nat} {cur : Array Value} {T : List Ent} (hB : B ≤ g) (h1 : w.heap[g]? = some (.cells cur E (0, 0))) (h2 : T.length = n) (h3 : n ≤ c) (h4 : c ≤ maxLen) (h5 : cur.size = c * 3) (h6 : cur.toList.take (n * 3) = T.flatMap encE) : Own E w B (.slice (some ⟨g, 0, none⟩) n c) 3 encE T :=
  ⟨flat3 T, Or.inr ⟨g, c, cur, by rw [h2], hB, h1, by omega, h4, h5, by rw [h2]; exact h6⟩⟩
theorem take3 (T : List Ent) (k : Nat) : (T.flatMap encE).take (k * 3) = (T.take k).flatMap encE := by
  induction T generalizing k with
  | nil => simp
  | cons x T ih =>
    cases k with
    | zero => simp
    | succ k =>
      rw [List.flatMap_cons, List.take_succ_cons, List.flatMap_cons, ← ih k]
      rw [show (k + 1) * 3 = (encE x).length + k * 3 by simp [encE]; omega, List.take_length_add_append]
theorem drop3 (T : List Ent) (k : Nat) : (T.flatMap encE).drop (k * 3) = (T.drop k).flatMap encE := by
  induction T generalizing k with
  | nil => simp
  | cons x T ih =>
    cases k with
    | zero => simp
    | succ k =>
      rw [List.flatMap_cons, List.drop_succ_cons, ← ih k]
      rw [show (k + 1) * 3 = (encE x).length + k * 3 by simp [encE]; omega, List.drop_length_add_append]
theorem cell_row {E : TypeId} {w : World} {g : Nat} {cur : Array Value} (h : w.heap[g]? = some (.cells cur E (0, 0))) (j : Nat) : w.cell? ⟨g, j, none⟩ = cur[j]? := by
  unfold World.cell?; simp [h]
set_option maxHeartbeats 4000000 in
/-- Within, where there is room. -/
theorem InsRoom_any (v : Value) (T : List Ent) (f b g k : Nat) (ef eb ev : Int) (n c B be : Nat) (aa : Addr) (w : World) (hO : Own 29 w B (.slice (some aa) n c) 3 encE T) (hk : k < n) (hT : n ≤ 100) (hroom : n + 1 ≤ c) (hB : B ≤ w.heap.size) (hbe : w.heap[be]? = some (.cells #[.int .i64 ef, .int .i64 eb, .int .i64 ev] 29 (0, 0))) (hne : be ≠ aa.block) :
    Calls Try.prog 61 #[.slice (some aa) n c, .int .i64 k, .slice (some ⟨be, 0, none⟩) 1 1] w fun e w' => ∃ u, e = .returned u ∧ Own 29 w' B u 3 encE (T.take k ++ (ef, eb, ev) :: T.drop k) ∧ Below B w w' := by
  obtain ⟨g, cur, rfl, hBg, hgl, hg, hn, hnc, hcm, hcs, htk⟩ := rowO hO
  have hc63 : c ≤ 9223372036854775807 := by unfold maxLen at hcm; omega
  have hz1 : ¬ ((1 : Int) = 0) := by omega
  have hz2 : ¬ ((k : Int) = (n : Int)) := by omega
  have hz3 : ¬ ((c : Int) < (n : Int) + 1) := by omega
  have hsz : (Try.prog.info? 29).map (·.size) = some 3 := by kernel_rfl
  have hb2 : ¬ (c = k + 1) := by omega
  have hb3 : (k : Int) ≤ (n : Int) + 1 := by omega
  have hb4 : ¬ (c = k) := by omega
  have hw1 : IntKind.i64.wrap ((k : Int) + 1) = (k : Int) + 1 := by rw [IntKind.wrap_i64]; omega
  have hb1 : (0 : Int) ≤ (k : Int) + 1 := by omega
  have hin : k ≤ n := by omega
  have htn : ((k : Int) + 1).toNat = k + 1 := by omega
  have hkn : k + 1 ≤ n + 1 := by omega
  have hD : ((T.drop k).flatMap encE).length = (n - k) * 3 := by rw [flat3, List.length_drop, hn]
  have hcl : cur.toList.length = c * 3 := by simpa using hcs
  obtain ⟨cur1, hc1⟩ : ∃ cur1 : Array Value, cur1 = (cur.toList.take ((k + 1) * 3) ++ (T.drop k).flatMap encE ++ cur.toList.drop ((k + 1) * 3 + ((T.drop k).flatMap encE).length)).toArray := ⟨_, rfl⟩
  have hc1l : cur1.toList.length = c * 3 := by
    rw [hc1]; simp only [List.length_append, List.length_take, List.length_drop, hcl, hD]; omega
  obtain ⟨cur2, hc2⟩ : ∃ cur2 : Array Value, cur2 = (cur1.toList.take (k * 3) ++ encE (ef, eb, ev) ++ cur1.toList.drop (k * 3 + (encE (ef, eb, ev)).length)).toArray := ⟨_, rfl⟩
  have hc2l : cur2.toList.length = c * 3 := by
    rw [hc2]; simp only [List.length_append, List.length_take, List.length_drop, hc1l, encE, List.length_cons, List.length_nil]; omega
  have hfin : cur2.toList.take ((n + 1) * 3) = (T.take k ++ (ef, eb, ev) :: T.drop k).flatMap encE := by
    have hE : (encE (ef, eb, ev)).length = 3 := rfl
    have := lay_s (R := cur.toList) (E := encE (ef, eb, ev)) (D := (T.drop k).flatMap encE) (o := k * 3) (by rw [hE, hD, hcl]; omega) cur1.toList (by rw [hc1, hE, show k * 3 + 3 = (k + 1) * 3 by omega])
    rw [hE, hD, show k * 3 + 3 + (n - k) * 3 = (n + 1) * 3 by omega] at this
    rw [hc2]
    show List.take _ (_ ++ _ ++ _) = _
    rw [show (encE (ef, eb, ev)).length = 3 from rfl, this, List.flatMap_append, List.flatMap_cons, ← take3, ← htk, List.take_take, Nat.min_eq_left (by omega), List.append_assoc]
  have hgd : w.drew.heap[g]? = some (.cells cur 29 (0, 0)) := hg
  have hcp1 : ∀ ty dc sc, (Builtin.copy_ #[23, 23] ty #[.slice (some ⟨g, (k + 1) * 3, none⟩) (n - k) dc, .slice (some ⟨g, k * 3, none⟩) (n + 1 - k) sc]).run Try.prog w.drew = .ok (goInt (Nat.min (n + 1 - k) (n - k))) (w.drew.setRow g cur1) := fun ty dc sc => by
    have := run_copy_rowN (P := Try.prog) w.drew 23 23 ty 29 g ((k + 1) * 3) (n - k) dc ⟨g, k * 3, none⟩ (n + 1 - k) sc 3 cur 29 ((T.drop k).flatMap encE) Try.underlying23 hsz hgd (by rw [hD]; show _ = min (n + 1 - k) (n - k) * 3; rw [Nat.min_eq_right (by omega)]) (fun j v hj => by
      rw [addr_add', cell_row hgd, ← Array.getElem?_toList]
      rw [← drop3, List.getElem?_drop, ← htk, List.getElem?_take] at hj
      split at hj
      · exact hj
      · cases hj) (by rw [hD, hcs]; omega) (ent_one _)
    rw [this, hc1]
  have hcp2 : ∀ (W : World), W.heap[g]? = some (.cells cur1 29 (0, 0)) → W.heap[be]? = some (.cells #[.int .i64 ef, .int .i64 eb, .int .i64 ev] 29 (0, 0)) → ∀ ty dc, (Builtin.copy_ #[23, 23] ty #[.slice (some ⟨g, k * 3, none⟩) (n + 1 - k) dc, .slice (some ⟨be, 0, none⟩) 1 1]).run Try.prog W = .ok (goInt (Nat.min 1 (n + 1 - k))) (W.setRow g cur2) := fun W hW hWb ty dc => by
    have := run_copy_rowN (P := Try.prog) W 23 23 ty 29 g (k * 3) (n + 1 - k) dc ⟨be, 0, none⟩ 1 1 3 cur1 29 (encE (ef, eb, ev)) Try.underlying23 hsz hW (by show _ = min 1 (n + 1 - k) * 3; rw [Nat.min_eq_left (by omega)]; rfl) (fun j v hj => by
      rw [addr_add', cell_row hWb, Nat.zero_add]
      simpa [encE] using hj) (by rw [← Array.length_toList, hc1l]; simp [encE]; omega) (fun u hu => by simp [encE] at hu; rcases hu with rfl | rfl | rfl <;> rfl)
    rw [this, hc2]
  have hov : ∀ lb cb, (callFunc 73 #[.slice (some ⟨be, 0, none⟩) 1 1, .slice (some ⟨g, (k + 1) * 3, none⟩) lb cb]).run Try.prog w = .ok (.value (.bool false)) w := fun lb cb => by
    have hsa : w.shape? be = some (29, 3) := by unfold World.shape?; simp [hbe]
    have hsb : w.shape? g = some (29, cur.size) := by unfold World.shape?; simp [hg]
    have hfa : w.frozen? ⟨be, 0, none⟩ = false := by unfold World.frozen?; simp [hbe]
    have hfe : w.frozen? ⟨be, 3, none⟩ = false := by unfold World.frozen?; simp [hbe]
    rw [run_callFunc_extern Try.func73 (by kernel_rfl) (by kernel_rfl) (by kernel_rfl) (e := Extern.SlicesOverlaps.overlaps #[23, 23] #[4]) (by kernel_rfl),
      Lib.run_overlaps_apart w 23 4 29 Try.underlying23 3 (fun w => by kernel_rfl) ⟨be, 0, none⟩ ⟨g, (k + 1) * 3, none⟩ 1 1 lb cb hne 29 29 3 cur.size hsa hsb (by omega) hfa hfe]
    rfl
  have hA1 : (w.drew.setRow g cur1).heap[g]? = some (.cells cur1 29 (0, 0)) := setRow_heap w.drew g cur _ 29 _ hgd
  have hA2 : (w.drew.setRow g cur1).heap[be]? = some (.cells #[.int .i64 ef, .int .i64 eb, .int .i64 ev] 29 (0, 0)) := by
    rw [setRow_other w.drew g be _ (fun e => hne e)]; exact hbe
  have hFin : Hid (Own 29 ((w.drew.setRow g cur1).setRow g cur2) B (.slice (some ⟨g, 0, none⟩) (n + 1) c) 3 encE (T.take k ++ (ef, eb, ev) :: T.drop k) ∧ Below B w ((w.drew.setRow g cur1).setRow g cur2)) :=
    ⟨ownOf hBg (setRow_heap _ g cur1 _ 29 _ hA1) (by simp; omega) hroom hcm (by simpa using hc2l) hfin, below_setRow (below_setRow (Below.refl _ _).drew hBg _) hBg _⟩
  have mixed : Try.prog.follows .mixedOrders = true := by kernel_rfl
  clear hO hc1 hc2 hfin hc1l hc2l hD hcl htk hg hgd hbe
  go_enter Try.func61, Try.ntmps61
  go_wp2_with (simp only [hov])
  go_region_law_o (refine step_copy_runI rfl _ _ 23 23 rfl (.slice (some ⟨g, (k + 1) * 3, none⟩) (n - k) (c - (k + 1))) (.slice (some ⟨g, k * 3, none⟩) (n + 1 - k) (c - k)) (by simp [Act.eval, Act.put]) (by simp [Act.eval, Act.put]) (hcp1 _ _ _) ?_)
  have h2 := hcp2 _ hA1 hA2 3 (c - k)
  clear hcp2 hA1 hA2
  go_wp2
  go_ret
  exact ⟨_, rfl, hFin.out⟩
set_option maxHeartbeats 4000000 in
/-- Within, where there is no room. -/
theorem InsGrow_any (T : List Ent) (k : Nat) (ef eb ev : Int) (n c B be : Nat) (aa : Addr) (w : World) (hO : Own 29 w B (.slice (some aa) n c) 3 encE T) (hk : k < n) (hT : n ≤ 100) (hroom : c < n + 1) (hB : B ≤ w.heap.size) (hbe : w.heap[be]? = some (.cells #[.int .i64 ef, .int .i64 eb, .int .i64 ev] 29 (0, 0))) :
    Calls Try.prog 61 #[.slice (some aa) n c, .int .i64 k, .slice (some ⟨be, 0, none⟩) 1 1] w fun e w' => ∃ u, e = .returned u ∧ Own 29 w' B u 3 encE (T.take k ++ (ef, eb, ev) :: T.drop k) ∧ Below B w w' := by
  obtain ⟨g, cur, rfl, hBg, hgl, hg, hn, hnc, hcm, hcs, htk⟩ := rowO hO
  obtain ⟨i0, hi0, hz0, hzs, hzb⟩ := info_parts infoEnt
  have hc63 : c ≤ 9223372036854775807 := by unfold maxLen at hcm; omega
  have hz1 : ¬ ((1 : Int) = 0) := by omega
  have hz2 : ¬ ((k : Int) = (n : Int)) := by omega
  have hz3 : (c : Int) < (n : Int) + 1 := by omega
  have hsz : (Try.prog.info? 29).map (·.size) = some 3 := by kernel_rfl
  have hkk : (n : Int) + 1 - (k : Int) = ((n + 1 - k : Nat) : Int) := by omega
  have hik : k + (n + 1 - k) = n + 1 := by omega
  have hgd : w.drew.heap[g]? = some (.cells cur 29 (0, 0)) := hg
  have hA : ((T.take k).flatMap encE).length = k * 3 := by rw [flat3, List.length_take, hn, Nat.min_eq_left (by omega)]
  have hD : ((T.drop k).flatMap encE).length = (n - k) * 3 := by rw [flat3, List.length_drop, hn]
  have hold : (Builtin.firstCells i0.size k (.slice (some ⟨g, 0, none⟩) k c)).run Try.prog w.drew = .ok ((T.take k).flatMap encE).toArray w.drew := by
    rw [hzs]
    exact run_firstCells_some w.drew 3 k ⟨g, 0, none⟩ k c ((T.take k).flatMap encE) hA (fun j v hj => by
      rw [addr_add', cell_row hgd, Nat.zero_add, ← Array.getElem?_toList]
      rw [← take3, ← htk, List.getElem?_take, List.getElem?_take] at hj
      split at hj
      · split at hj
        · exact hj
        · cases hj
      · cases hj)
  obtain ⟨G, hG⟩ : ∃ G, G = grownCap w (n + 1) c 29 := ⟨_, rfl⟩
  have hGn : n + 1 ≤ G := by rw [hG]; exact grownCap_ge w _ _ _
  have hGm : G ≤ maxLen := by rw [hG]; exact grownCap_le_maxLen w (n + 1) c 29 (by unfold maxLen; omega)
  have hG63 : G ≤ 9223372036854775807 := by unfold maxLen at hGm; omega
  obtain ⟨cur0, hc0⟩ : ∃ cur0 : Array Value, cur0 = ((T.take k).flatMap encE).toArray ++ Builtin.zeroCells (Value.agg #[.int .i64 0, .int .i64 0, .int .i64 0]).cells (n + 1 - k) ++ Builtin.zeroCells (Value.agg #[.int .i64 0, .int .i64 0, .int .i64 0]).cells (G - (n + 1)) := ⟨_, rfl⟩
  have hc0l : cur0.toList.length = G * 3 := by
    rw [hc0, Array.length_toList]
    simp only [Array.size_append, size_zeroCells, List.size_toArray, hA, Value.cells]
    show k * 3 + (n + 1 - k) * 3 + (G - (n + 1)) * 3 = G * 3
    omega
  have hc0t : cur0.toList.take (k * 3) = (T.take k).flatMap encE := by
    rw [hc0, Array.toList_append, Array.toList_append, List.append_assoc]
    show List.take (k * 3) ((T.take k).flatMap encE ++ _) = _
    exact List.take_left' hA
  obtain ⟨W1, hW1⟩ : ∃ W1, W1 = w.drew.alloc (.cells cur0 29) := ⟨_, rfl⟩
  have hrz : ∀ ty, (Builtin.append_ #[23, 3] ty #[.slice (some ⟨g, 0, none⟩) k c, .int .i64 ((n : Int) + 1 - (k : Int))]).run Try.prog w = .ok (.slice (some ⟨w.heap.size, 0, none⟩) (n + 1) G) W1 := fun ty => by
    have h := Lib.run_append_grow_zeros w 23 3 ty 29 i0 _ .i64 .i64 Try.underlying23 Try.underlying3 hi0 hz0 (some ⟨g, 0, none⟩) k c _ hold (n + 1 - k) (by omega) (by omega) (by omega) (by omega) (by rw [hzb]; omega) (by rw [hzb, hik]; exact growslice_fits hroom (by omega))
    rw [hik, ← hG, ← hc0, ← hW1] at h
    rw [hkk]
    exact h
  obtain ⟨cur1, hc1⟩ : ∃ cur1 : Array Value, cur1 = (cur0.toList.take (k * 3) ++ encE (ef, eb, ev) ++ cur0.toList.drop (k * 3 + (encE (ef, eb, ev)).length)).toArray := ⟨_, rfl⟩
  have hc1l : cur1.toList.length = G * 3 := by
    rw [hc1]; simp only [List.length_append, List.length_take, List.length_drop, hc0l, encE, List.length_cons, List.length_nil]; omega
  obtain ⟨cur2, hc2⟩ : ∃ cur2 : Array Value, cur2 = (cur1.toList.take ((k + 1) * 3) ++ (T.drop k).flatMap encE ++ cur1.toList.drop ((k + 1) * 3 + ((T.drop k).flatMap encE).length)).toArray := ⟨_, rfl⟩
  have hc2l : cur2.toList.length = G * 3 := by
    rw [hc2]; simp only [List.length_append, List.length_take, List.length_drop, hc1l, hD]; omega
  have hfin : cur2.toList.take ((n + 1) * 3) = (T.take k ++ (ef, eb, ev) :: T.drop k).flatMap encE := by
    have hE : (encE (ef, eb, ev)).length = 3 := rfl
    have := lay_g (R := cur0.toList) (E := encE (ef, eb, ev)) (D := (T.drop k).flatMap encE) (o := k * 3) (by rw [hE, hD, hc0l]; omega) (by rw [hc0l]; omega)
    rw [hE, hD, show k * 3 + 3 + (n - k) * 3 = (n + 1) * 3 by omega, show k * 3 + 3 = (k + 1) * 3 by omega] at this
    rw [hc2, hc1]
    show List.take _ ((List.take _ (_ ++ _ ++ _)) ++ _ ++ List.drop _ (_ ++ _ ++ _)) = _
    rw [hD, show (encE (ef, eb, ev)).length = 3 from rfl, show k * 3 + 3 = (k + 1) * 3 by omega, show (k + 1) * 3 + (n - k) * 3 = (n + 1) * 3 by omega, this, hc0t, List.flatMap_append, List.flatMap_cons, List.append_assoc]
  have hcp1 : ∀ (W : World), W.heap[w.heap.size]? = some (.cells cur0 29 (0, 0)) → W.heap[be]? = some (.cells #[.int .i64 ef, .int .i64 eb, .int .i64 ev] 29 (0, 0)) → ∀ ty dc, (Builtin.copy_ #[23, 23] ty #[.slice (some ⟨w.heap.size, k * 3, none⟩) (n + 1 - k) dc, .slice (some ⟨be, 0, none⟩) 1 1]).run Try.prog W = .ok (goInt (Nat.min 1 (n + 1 - k))) (W.setRow w.heap.size cur1) := fun W hW hWb ty dc => by
    have := run_copy_rowN (P := Try.prog) W 23 23 ty 29 w.heap.size (k * 3) (n + 1 - k) dc ⟨be, 0, none⟩ 1 1 3 cur0 29 (encE (ef, eb, ev)) Try.underlying23 hsz hW (by show _ = min 1 (n + 1 - k) * 3; rw [Nat.min_eq_left (by omega)]; rfl) (fun j v hj => by
      rw [addr_add', cell_row hWb, Nat.zero_add]
      simpa [encE] using hj) (by rw [← Array.length_toList, hc0l]; simp [encE]; omega) (fun u hu => by simp [encE] at hu; rcases hu with rfl | rfl | rfl <;> rfl)
    rw [this, hc1]
  have hcp2 : ∀ (W : World), W.heap[w.heap.size]? = some (.cells cur1 29 (0, 0)) → W.heap[g]? = some (.cells cur 29 (0, 0)) → ∀ ty dc sc, (Builtin.copy_ #[23, 23] ty #[.slice (some ⟨w.heap.size, (k + 1) * 3, none⟩) (n - k) dc, .slice (some ⟨g, k * 3, none⟩) (n - k) sc]).run Try.prog W = .ok (goInt (Nat.min (n - k) (n - k))) (W.setRow w.heap.size cur2) := fun W hW hWg ty dc sc => by
    have := run_copy_rowN (P := Try.prog) W 23 23 ty 29 w.heap.size ((k + 1) * 3) (n - k) dc ⟨g, k * 3, none⟩ (n - k) sc 3 cur1 29 ((T.drop k).flatMap encE) Try.underlying23 hsz hW (by rw [hD]; show _ = min (n - k) (n - k) * 3; rw [Nat.min_self]) (fun j v hj => by
      rw [addr_add', cell_row hWg, ← Array.getElem?_toList]
      rw [← drop3, List.getElem?_drop, ← htk, List.getElem?_take] at hj
      split at hj
      · exact hj
      · cases hj) (by rw [hD, ← Array.length_toList, hc1l]; omega) (ent_one _)
    rw [this, hc2]
  have hbl := (Array.getElem?_eq_some_iff.1 hbe).1
  have hA0 : W1.heap[w.heap.size]? = some (.cells cur0 29 (0, 0)) := by rw [hW1]; exact heap_alloc_new w.drew _
  have hAb : W1.heap[be]? = some (.cells #[.int .i64 ef, .int .i64 eb, .int .i64 ev] 29 (0, 0)) := by rw [hW1]; exact (Below.heap_alloc w.drew _ be hbl).trans hbe
  have hAg : W1.heap[g]? = some (.cells cur 29 (0, 0)) := by rw [hW1]; exact (Below.heap_alloc w.drew _ g hgl).trans hg
  have hA1 : (W1.setRow w.heap.size cur1).drew.heap[w.heap.size]? = some (.cells cur1 29 (0, 0)) := setRow_heap W1 w.heap.size cur0 _ 29 _ hA0
  have hA2 : (W1.setRow w.heap.size cur1).drew.heap[g]? = some (.cells cur 29 (0, 0)) := by
    show (W1.setRow w.heap.size cur1).heap[g]? = _
    rw [setRow_other W1 w.heap.size g _ (by omega)]; exact hAg
  have hBW : Below B w W1 := by rw [hW1]; exact (Below.refl _ _).drew.alloc hB _
  have hFin : Hid (Own 29 (((W1.setRow w.heap.size cur1).drew).setRow w.heap.size cur2) B (.slice (some ⟨w.heap.size, 0, none⟩) (n + 1) G) 3 encE (T.take k ++ (ef, eb, ev) :: T.drop k) ∧ Below B w (((W1.setRow w.heap.size cur1).drew).setRow w.heap.size cur2)) :=
    ⟨ownOf hB (setRow_heap _ w.heap.size cur1 _ 29 _ hA1) (by simp; omega) hGn hGm (by simpa using hc2l) hfin, below_setRow (below_setRow hBW hB _).drew hB _⟩
  have hGi : ¬ (G = k) := by omega
  have hGim : ¬ (G = k + 1) := by omega
  have hci : ¬ (c = k) := by omega
  have hw1 : IntKind.i64.wrap ((k : Int) + 1) = (k : Int) + 1 := by rw [IntKind.wrap_i64]; omega
  have hb1 : (0 : Int) ≤ (k : Int) + 1 := by omega
  have hin : k ≤ n := by omega
  have hb3 : (k : Int) ≤ (n : Int) := by omega
  have htn : ((k : Int) + 1).toNat = k + 1 := by omega
  have hkn : k + 1 ≤ n + 1 := by omega
  have mixed : Try.prog.follows .mixedOrders = true := by kernel_rfl
  have h1 := hcp1 _ hA0 hAb 3 (G - k)
  have h2 := Lib.hid (hcp2 _ hA1 hA2)
  clear hO hc0 hc1 hc2 hfin hc0l hc1l hc2l hc0t hD hA htk hg hgd hbe hcp1 hcp2 hA0 hA1 hA2 hAb hAg hBW hW1 hG hold hkk hik hi0 hz0 hzs hzb hbl
  go_enter Try.func61, Try.ntmps61
  go_wp2_with (at_builtin; refine Lib.wpList_append_run _ rfl _ _ _ _ rfl _ _ rfl rfl _ _ (hrz _) ?_)
  go_region_law_o (refine step_copy_runI rfl _ _ 23 23 rfl (.slice (some ⟨w.heap.size, (k + 1) * 3, none⟩) (n - k) (G - (k + 1))) (.slice (some ⟨g, k * 3, none⟩) (n - k) (c - k)) (by simp [Act.eval, Act.put]) (by simp [Act.eval, Act.put]) (h2.out _ _ _) ?_)
  go_wp2
  go_ret
  exact ⟨_, rfl, hFin.out⟩
end Go.Proofs.Ytbhenfegklgkoaa
