/- Rows of entries of one's own: cells, and writes into them; entries drawn. -/
import Derived.Test.YtkkhbnhddhbgeaaPa
import Derived.Test.YtkkhbnhddhbgeaaTb
import Derived.Test.YtkkhbnhddhbgeaaTd
import Derived.Test.YtkkhbnhddhbgeaaBs
set_option linter.unusedSimpArgs false
set_option linter.unusedVariables false
namespace Go.Proofs.Ytkkhbnhddhbgeaa
open Go.RowKit

theorem flat3 (L : List Ent) : (L.flatMap encE).length = L.length * 3 := flat_len (enc := encE) (sz := 3) (fun _ => rfl) L
theorem rowO {E : TypeId} {w : World} {B n c : Nat} {aa : Addr} {T : List Ent} (h : Own E w B (.slice (some aa) n c) 3 encE T) : ∃ g cur, aa = ⟨g, 0, none⟩ ∧ B ≤ g ∧ g < w.heap.size ∧ w.heap[g]? = some (.cells cur E (0, 0)) ∧ T.length = n ∧ n ≤ c ∧ c ≤ maxLen ∧ cur.size = c * 3 ∧ cur.toList.take (n * 3) = T.flatMap encE := by
  obtain ⟨_, ⟨e1, _⟩ | ⟨g, cap, cur, e1, h2, h3, h4, h5, h6, h7⟩⟩ := h
  · cases e1
  · injection e1 with e1 e2 e3
    injection e1 with e1
    subst e3
    refine ⟨g, cur, e1, h2, (Array.getElem?_eq_some_iff.1 h3).1, h3, e2.symm, by omega, h5, h6, by rw [e2]; exact h7⟩
theorem ownOf {E : TypeId} {w : World} {B n c g : Nat} {cur : Array Value} {T : List Ent} (hB : B ≤ g) (h1 : w.heap[g]? = some (.cells cur E (0, 0))) (h2 : T.length = n) (h3 : n ≤ c) (h4 : c ≤ maxLen) (h5 : cur.size = c * 3) (h6 : cur.toList.take (n * 3) = T.flatMap encE) : Own E w B (.slice (some ⟨g, 0, none⟩) n c) 3 encE T :=
  ⟨flat3 T, Or.inr ⟨g, c, cur, by rw [h2], hB, h1, by omega, h4, h5, by rw [h2]; exact h6⟩⟩
theorem set3 (f b v : Value) : ∀ (T : List Ent) (k : Nat) (e : Ent), k < T.length → encE e = [f, b, v] → (((T.flatMap encE).set (k * 3) f).set (k * 3 + 1) b).set (k * 3 + 2) v = (T.set k e).flatMap encE
  | [], k, e, h, _ => by simp at h
  | x :: T, 0, e, _, he => by
    rw [List.set_cons_zero, List.flatMap_cons, List.flatMap_cons, he]; rfl
  | x :: T, k + 1, e, h, he => by
    rw [List.set_cons_succ, List.flatMap_cons, List.flatMap_cons, ← set3 f b v T k e (by simpa using h) he]
    show ((([_, _, _] ++ T.flatMap encE).set _ f).set _ b).set _ v = [_, _, _] ++ _
    simp only [List.cons_append, List.nil_append]
    rw [show (k + 1) * 3 = k * 3 + 1 + 1 + 1 by omega]
    simp only [List.set_cons_succ, Nat.add_right_comm _ 1 2, show k * 3 + 1 + 1 + 1 + 1 = (k * 3 + 1) + 1 + 1 + 1 by omega, show k * 3 + 1 + 1 + 1 + 2 = (k * 3 + 2) + 1 + 1 + 1 by omega]
theorem Own.put3 {E : TypeId} {w : World} {B g n c : Nat} {T : List Ent} (h : Own E w B (.slice (some ⟨g, 0, none⟩) n c) 3 encE T) {k : Nat} (f b v : Int) (hk : k < T.length) : Own E (((w.setCell ⟨g, k * 3, none⟩ (.int .i64 f)).setCell ⟨g, k * 3 + 1, none⟩ (.int .i64 b)).setCell ⟨g, k * 3 + 2, none⟩ (.int .i64 v)) B (.slice (some ⟨g, 0, none⟩) n c) 3 encE (T.set k (f, b, v)) := by
  obtain ⟨g', cur, e, hBg, hgl, hg, hn, hnc, hcm, hcs, htk⟩ := rowO h
  injection e with e; subst e
  have s1 := heap_setCell_same w g (k * 3) cur E (.int .i64 f) hg
  have s2 := heap_setCell_same _ g (k * 3 + 1) _ E (.int .i64 b) s1
  have s3 := heap_setCell_same _ g (k * 3 + 2) _ E (.int .i64 v) s2
  refine ownOf hBg s3 (by rw [List.length_set]; exact hn) hnc hcm (by simpa using hcs) ?_
  simp only [Array.toList_setIfInBounds]
  rw [List.take_set, List.take_set, List.take_set, htk]
  exact set3 _ _ _ T k (f, b, v) hk rfl
theorem Own.cells3 {E : TypeId} {w : World} {B g n c : Nat} {T : List Ent} (h : Own E w B (.slice (some ⟨g, 0, none⟩) n c) 3 encE T) {k : Nat} (hk : k < T.length) : (∃ x, w.cell? ⟨g, k * 3, none⟩ = some x) ∧ (∃ x, w.cell? ⟨g, k * 3 + 1, none⟩ = some x) ∧ (∃ x, w.cell? ⟨g, k * 3 + 2, none⟩ = some x) ∧ ∀ j, w.frozen? ⟨g, j, none⟩ = false := by
  have hr := h.rows (fun _ => rfl)
  have hx := List.getElem?_eq_getElem hk
  refine ⟨⟨_, by have := hr.get hx (j := 0) rfl; simpa using this⟩, ⟨_, by have := hr.get hx (j := 1) rfl; simpa using this⟩, ⟨_, by have := hr.get hx (j := 2) rfl; simpa using this⟩, fun j => ?_⟩
  obtain ⟨g', cur, e, hBg, hgl, hg, _⟩ := rowO h
  injection e with e; subst e
  unfold World.frozen?; simp [hg]
theorem own_some' {α : Type} {E : TypeId} {w : World} {B n : Nat} {v : Value} {sz : Nat} {enc : α → List Value} {L : List α} (h : Own E w B v sz enc L) (hL : L.length = n) (hn : 0 < n) : ∃ g c, v = .slice (some ⟨g, 0, none⟩) n c ∧ n ≤ c ∧ B ≤ g := by
  obtain ⟨ao, cap0, e0⟩ := h.sl
  obtain ⟨_, ⟨e1, e2⟩ | ⟨g, cap, cur, e1, h1, h2, h3, h4, _⟩⟩ := h
  · rw [e0] at e1; injection e1 with e1 e3; omega
  · exact ⟨g, cap, by rw [e1, hL], by omega, h1⟩
theorem Own.row3 {E : TypeId} {w : World} {B g n c : Nat} {T : List Ent} (h : Own E w B (.slice (some ⟨g, 0, none⟩) n c) 3 encE T) {k : Nat} {x : Ent} (hx : T[k]? = some x) : w.cell? ⟨g, k * 3, none⟩ = some (.int .i64 x.1) ∧ w.cell? ⟨g, k * 3 + 1, none⟩ = some (.int .i64 x.2.1) ∧ w.cell? ⟨g, k * 3 + 2, none⟩ = some (.int .i64 x.2.2) := by
  have hr := h.rows (fun _ => rfl)
  have c0 := hr.get hx (j := 0) rfl
  have c1 := hr.get hx (j := 1) rfl
  have c2 := hr.get hx (j := 2) rfl
  rw [Nat.zero_add] at c0 c1 c2
  exact ⟨c0, c1, c2⟩
set_option maxHeartbeats 4000000 in
theorem drawTableOk_any (v0 : Value) (w : World) (h : Given w v0) :
    Calls Try.prog 19 #[v0] w fun e w' => ∃ (v : Value) (T : List Ent), e = .returned v ∧ Own 40 w' w.heap.size v 3 encE T ∧ T.length ≤ 30 ∧ Below w.heap.size w w' := by
  go_enter Try.func19, Try.ntmps19
  go_wp2_with fail
  refine (open_any v0 _ h).mono ?_; rintro e w1 ⟨rfl, hR, hb1⟩
  have hr := hR.lt
  have hs1 := hb1.size
  obtain ⟨r, hrr⟩ : ∃ r, Hid (w.heap.size = r) := ⟨_, rfl⟩
  rw [hrr.out] at hR hr hb1 hs1 ⊢
  have hF := Fr.start r w1
  clear h
  go_wp2_with fail
  refine (l91Table_any _ 0 _ hR (by omega)).mono ?_; rintro e w2 ⟨v, T, rfl, hO, hne, hT, ⟨k2, hk2, hR2⟩, hK2⟩
  have hs2 := hK2.size
  replace hF := hF.call hK2
  replace hR := hR2
  have hl1 : w1.heap.size ≤ w2.heap.size := hs2
  clear hR2 hK2 hne
  go_wp2_with fail
  refine (pick_any r _ _ _ hR (by omega) (by omega) (by omega)).mono ?_; rintro e wx ⟨vx, rfl, ux, lx, hRx, hKx⟩
  replace hF := hF.call hKx
  replace hR := hRx
  (try replace hO := Own.kp hO hKx hr)
  have hsx := hKx.size
  clear hRx hKx
  have hfin : ∀ w3, Below r w1 w3 → Below r w w3 := fun w3 h => hb1.trans h
  by_cases h0 : vx = 0
  · subst h0
    go_wp2_with (first | (go_at_call 45; go_must (refine (pick_any r _ _ _ hR (by omega) (by omega) (by omega)).mono ?_); rintro e wx ⟨vx, rfl, ux, lx, hRx, hKx⟩; replace hF := hF.call hKx; replace hR := hRx; (try replace hO := Own.kp hO hKx hr); have hsx := hKx.size; clear hRx hKx) | (go_at_call 51; go_must (refine (l91Range_any r _ _ hR (by omega)).mono ?_); rintro e wx ⟨fx, bx, rfl, flx, fhx, blx, bhx, ⟨kx, hkx, hRx⟩, hKx⟩; replace hF := hF.call hKx; replace hR := hRx; (try replace hO := Own.kp hO hKx hr); have hsx := hKx.size; clear hRx hKx) | (at_builtin; refine wpList_app rfl _ _ 36 rfl 40 (.agg #[.int .i64 0, .int .i64 0, .int .i64 0]) 3 24 Try.underlying36 infoEnt rfl (by decide) (by decide) w1.heap.size encE _ _ rfl (hO.alloc _) (((fx, bx, vx) : Ent)) ⟨_, 0, none⟩ 1 rfl rfl (cells_new _ _ _) (by simp [encE, Value.oneCell']) (by first | omega | (simp only [List.length_append, List.length_cons, List.length_nil]; omega)) (by simp only [World.size_alloc]; omega) ?_; intro v' wx hO1 hg1 hb1 hf1; (have hsz9 := hb1.size; simp only [World.size_alloc] at hsz9; replace hO := hO1; replace hR := (hR.alloc _).below hb1 hr; replace hF := (hF.other _).belowB hb1 (Nat.le_refl _) (by simp); clear hO1 hg1 hf1)))
    go_ret
    exact ⟨_, T ++ [(fx, bx, vx)], rfl, hO.base (by have := hrr.out; omega), by simp; omega, by rw [hrr.out]; exact hfin _ (hF.kp.below (Nat.le_refl _) (by omega))⟩
  · have e0 : (vx == 0) = false := by simp [h0]
    clear h0
    go_wp2
    go_ret
    exact ⟨_, T, rfl, hO.base (by have := hrr.out; omega), by omega, by rw [hrr.out]; exact hfin _ (hF.kp.below (Nat.le_refl _) (by omega))⟩
end Go.Proofs.Ytkkhbnhddhbgeaa
