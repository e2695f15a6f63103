/- FnNetForm: the draw, what it says, the walk. FnNetForm: what is said of the draw, and the walk. -/
import Derived.Test.YtonojegnbcgnaaaDoorZ15
set_option linter.unusedSimpArgs false
set_option linter.unusedVariables false
namespace Go.Proofs.YtonojegnbcgnaaaDoor
open Go.RowKit Go.Maps Go.WideMaps

set_option maxRecDepth 100000 in
set_option maxHeartbeats 4000000 in
theorem drawNetOk_any (v0 : Value) (w : World) (h : Given w v0) :
    Calls Tryd.prog 33 #[v0] w fun e w' => ∃ (v u : Value) (M W : List (List Int)) (home : Int), e = .returned (.tuple #[v, .int .i64 home, u]) ∧ GLs shI w' v M ∧ GLs shI w' u W ∧ M.length ≤ 5 ∧ W.length ≤ 5 ∧ (∀ P ∈ W, P.length ≤ 1000) ∧ 1 ≤ home ∧ home ≤ 10 ∧ Below w.heap.size w w' := by
  go_enter Tryd.func33, Tryd.ntmps33
  go_wp2_with fail
  refine (open_any v0 _ h).mono ?_; rintro e w1 ⟨rfl, hR, hb1⟩
  have hlt := hR.lt
  clear h
  obtain ⟨r, hr⟩ : ∃ r, w.heap.size = r := ⟨_, rfl⟩
  rw [hr] at hR hlt hb1 ⊢
  go_wp2_with fail
  refine (l92Net_any r 0 _ hR (by omega)).mono ?_; rintro e w2 ⟨v, u, M, W, home, ms, U, rfl, hO, hW, hU1, hU2, hM5, hW5, hWK, hh1, hh5, ⟨k2, hk2, hR2⟩, hK⟩
  obtain ⟨ao, n, cap, rfl, hn, hnc, hcap⟩ := GLs.sl hW.gls
  have hB := hb1.trans (hK.below (Nat.le_refl _) (Nat.le_of_lt hlt))
  have hr1 := hlt
  obtain ⟨s1, hs1⟩ : ∃ s1, w1.heap.size = s1 := ⟨_, rfl⟩
  rw [hs1] at hO hU1 hr1
  clear hb1 hK hR
  have hrw : r ≤ w2.heap.size := by omega
  by_cases hn0 : n = 0
  · subst hn0
    go_wp2_with fail
    refine (pick_any r _ 24 _ hR2 (by omega) (by omega) (by omega)).mono ?_; rintro e w9 ⟨v9, rfl, u9, l9, hR9, hK9⟩
    have hW9 := (hW).kp hK9 (by omega)
    have hO9 := (hO).kp hK9 hr1
    have hB9 := (hB).trans (hK9.below (Nat.le_refl _) (hrw))
    clear hK9 hR9
    go_wp2
    refine bodyPost_ret (v := .tuple #[v, .int .i64 (home + v9 / 23 * 5), (.slice ao 0 cap)]) ?_ rfl ?_
    · simp [results, Tryd.results33, go_sem]
    · exact ⟨_, _, M, _, _, rfl, hO9.gls, hW9.gls, hM5, hW5, hWK, by omega, by omega, by rw [hr]; exact hB9⟩
  · have d0 : decide (0 < (n : Int)) = true := decide_eq_true (by omega)
    have d0' : decide (0 < n) = true := decide_eq_true (by omega)
    go_wp2_with fail
    refine (pick_any r _ 5 _ hR2 (by omega) (by omega) (by omega)).mono ?_; rintro e w3 ⟨v3, rfl, u3, l3, hR3, hK3⟩
    replace hO := hO.kp hK3 hr1
    replace hW := hW.kp hK3 (by omega)
    replace hB := hB.trans (hK3.below (Nat.le_refl _) hrw)
    have hU3 := Nat.le_trans hU2 hK3.size
    clear hK3 hR2 hrw hU2
    have hrw : r ≤ w3.heap.size := by omega
    by_cases h30 : v3 = 0
    · subst h30
      have hn5 : n ≤ 5 := by have := hn.out; omega
      go_wp2_with fail
      refine (pick_any r _ n _ hR3 (by omega) (by omega) (by omega)).mono ?_; rintro e w6 ⟨v6, rfl, u6, l6, hR6, hK6⟩
      replace hO := hO.kp hK6 hr1
      replace hW := hW.kp hK6 (by omega)
      have hU6 := Nat.le_trans hU3 hK6.size
      replace hB := hB.trans (hK6.below (Nat.le_refl _) hrw)
      obtain ⟨h6, rfl⟩ := Int.eq_ofNat_of_zero_le u6
      have hsw := hW.lt
      clear hK6 hR3 hU3 u3 l3 u6 hrw
      have hrw : r ≤ w6.heap.size := by omega
      go_wp2_with fail
      refine (l91Path_any r _ _ hR6 (by omega)).mono ?_; rintro e w7 ⟨pv, P, rfl, hOp, hP4, hPx, ⟨k7, hk7, hR7⟩, hK7⟩
      replace hO := hO.kp hK7 hr1
      replace hW := hW.kp hK7 (by omega)
      have hU7 := Nat.le_trans hU6 hK7.size
      replace hB := hB.trans (hK7.below (Nat.le_refl _) hrw)
      obtain ⟨po, pc, rfl⟩ := hOp.sl
      have hge := Lib.hid hOp.ge
      have hlp := Lib.hid hOp.lt
      have hWn : W.length = n := hn.out
      obtain ⟨g, cap', e⟩ := hW.form (by omega)
      injection e with e1 e2 e3
      subst e1
      obtain ⟨ds, hWo, hWr⟩ := id hW
      have hWo2 : Own 25 w7 U (.slice (some ⟨g, 0, none⟩) n cap) 1 encV ds := hWo
      obtain ⟨y, hy⟩ := get_lt (L := ds) (k := h6) (by rw [hWr.1]; omega)
      have cy := OwnV.cell hWo2 hy
      have ly := OwnV.live hWo2 h6
      have hg6 := hsw g rfl
      have hgU := hWo2.ge g rfl
      have hW9 := gown_put hW (i := h6) (by omega) (hOp.rows (fun _ => rfl)) (fun g' h1 => by have := hge.out g' h1; have := hlp.out g' h1; omega)
      have hO9 := hO.set ⟨g, h6, none⟩ (.slice po P.length pc) (Or.inr hgU)
      have hB9 := hB.setCell (show r ≤ (⟨g, h6, none⟩ : Addr).block by dsimp only; omega) (.slice po P.length pc)
      have hR9 := hR7.setCell (p := ⟨g, h6, none⟩) (by dsimp only; omega) (.slice po P.length pc)
      have hrw9 : r ≤ (w7.setCell ⟨g, h6, none⟩ (.slice po P.length pc)).heap.size := by rw [World.size_setCell]; omega
      have hKl9 : Hid (∀ R ∈ W.set h6 P, R.length ≤ 1000) := fun R hR => by
        rcases List.mem_or_eq_of_mem_set hR with hR | hR
        · exact hWK R hR
        · rw [hR]; omega
      have hWl9 : Hid ((W.set h6 P).length ≤ 5) := by show _ ≤ _; rw [List.length_set]; omega
      obtain ⟨wz, hwz⟩ : ∃ wz, w7.setCell ⟨g, h6, none⟩ (.slice po P.length pc) = wz := ⟨_, rfl⟩
      rw [hwz] at hW9 hO9 hB9 hR9 hrw9
      clear e2 e3 hWo hWo2 hWr hy hW hO hB hsw hg6 hgU hWn hWK hOp hPx hR7 hR6 hK7 hrw
      go_wp2_with fail
      refine (pick_any r _ 24 _ hR9 (by omega) (by omega) (by omega)).mono ?_; rintro e w9 ⟨v9, rfl, u9, l9, hR9, hK9⟩
      have hW9 := (hW9).kp hK9 (by omega)
      have hO9 := (hO9).kp hK9 hr1
      have hB9 := (hB9).trans (hK9.below (Nat.le_refl _) (hrw9))
      clear hK9 hR9
      go_wp2
      refine bodyPost_ret (v := .tuple #[v, .int .i64 (home + v9 / 23 * 5), (.slice (some ⟨g, 0, none⟩) n cap)]) ?_ rfl ?_
      · simp [results, Tryd.results33, go_sem]
      · exact ⟨_, _, M, _, _, rfl, hO9.gls, hW9.gls, hM5, hWl9.out, hKl9.out, by omega, by omega, by rw [hr]; exact hB9⟩
    · have d5 : (v3 == 0) = false := by rw [beq_eq_false_iff_ne]; exact h30
      go_wp2_with fail
      refine (pick_any r _ 24 _ hR3 (by omega) (by omega) (by omega)).mono ?_; rintro e w9 ⟨v9, rfl, u9, l9, hR9, hK9⟩
      have hW9 := (hW).kp hK9 (by omega)
      have hO9 := (hO).kp hK9 hr1
      have hB9 := (hB).trans (hK9.below (Nat.le_refl _) (hrw))
      clear hK9 hR9
      go_wp2
      refine bodyPost_ret (v := .tuple #[v, .int .i64 (home + v9 / 23 * 5), (.slice ao n cap)]) ?_ rfl ?_
      · simp [results, Tryd.results33, go_sem]
      · exact ⟨_, _, M, _, _, rfl, hO9.gls, hW9.gls, hM5, hW5, hWK, by omega, by omega, by rw [hr]; exact hB9⟩
end Go.Proofs.YtonojegnbcgnaaaDoor
set_option linter.unusedSimpArgs false
set_option linter.unusedVariables false
namespace Go.Proofs.YtonojegnbcgnaaaDoor
open Go.RowKit Go.Maps Go.WideMaps

theorem netP_a {M W : List (List Int)} {home : Int} (h : NetP M home W) {k : Nat} (hk : home = (k : Int) + 1) : ¬ NetP M home (W.set k []) := by
  rintro ⟨⟨-, hb, hl⟩, g⟩
  have hkl : k < W.length := by have := h.1.2.1; have := h.1.2.2; unfold Bts at *; omega
  have := g k (by simpa using hkl)
  have e : (W.set k []).getD k [] = [] := by simp [List.getD, List.getElem?_set_self hkl]
  rw [e] at this
  unfold WayP at this
  rw [if_pos rfl] at this
  exact this hk.symm
theorem netP_b {M W : List (List Int)} {home : Int} {k : Nat} (hkl : k < W.length) (hk : home ≠ (k : Int) + 1) : ¬ NetP M home (W.set k [home]) := by
  rintro ⟨-, g⟩
  have := g k (by simpa using hkl)
  have e : (W.set k [home]).getD k [] = [home] := by simp [List.getD, List.getElem?_set_self hkl]
  rw [e] at this
  unfold WayP at this
  rw [if_neg (by simp)] at this
  exact hk this.1.1.2.1
theorem netP_c {M W : List (List Int)} {home : Int} (h : NetP M home W) : ¬ NetP M home (W.drop 1) := by
  rintro ⟨⟨-, -, hl⟩, -⟩
  have h1 := h.1.2.2
  have h2 := h.1.1.2.1
  rw [List.length_drop] at hl
  omega
theorem gls_put {E : TypeId} {w0 w : World} {B : Nat} {v : Value} {ds : List Value} {L : List (List Int)} {i : Nat} {u : Value} {P : List Int} (hO : Own E w B v 1 encV (ds.set i u)) (hl : ds.length = L.length) (hI : ∀ (k : Nat) (s : List Int), L[k]? = some s → ∃ d, ds[k]? = some d ∧ Ints w0 d s) (hb : Below w0.heap.size w0 w) (hu : Ints w u P) (hi : i < L.length) : GLs shI w v (L.set i P) := by
  refine ⟨ds.set i u, hO.rows (fun _ => rfl), by simp [hl], fun j s hs => ?_⟩
  by_cases hij : i = j
  · subst hij
    rw [List.getElem?_set_self hi] at hs
    injection hs with hs
    subst hs
    exact ⟨u, by rw [List.getElem?_set_self (by omega)], hu⟩
  · rw [List.getElem?_set_ne hij] at hs
    obtain ⟨d, a, b⟩ := hI j s hs
    exact ⟨d, by rw [List.getElem?_set_ne hij]; exact a, Rows.below b hb⟩
theorem GLs.tail {w : World} {b off n cap : Nat} {L : List (List Int)} (h : GLs shI w (.slice (some ⟨b, off, none⟩) n cap) L) (hn : 0 < n) : GLs shI w (.slice (some ⟨b, off + 1, none⟩) (n - 1) (cap - 1)) (L.drop 1) := by
  obtain ⟨ds, h1, h2, h3⟩ := h.ex
  obtain ⟨ao, c, e, k1, k2, k3⟩ := h1.ex
  injection e with e1 e2 e3
  subst e1; subst e3
  refine ⟨ds.drop 1, ⟨some ⟨b, off + 1, none⟩, cap - 1, by rw [List.length_drop, ← e2], by rw [List.length_drop]; omega, by omega, fun k x hk => ⟨b, off + 1, rfl, fun j u hj => ?_⟩⟩, by simp [h2], fun k s hs => ?_⟩
  · rw [List.getElem?_drop] at hk
    obtain ⟨b', off', e, hc⟩ := k3 (1 + k) x hk
    injection e with e; injection e with e4 e5
    subst e4; subst e5
    have := hc j u hj
    have hz : shI.sz = 1 := rfl
    rw [hz] at this ⊢
    rwa [show off + 1 + k * 1 + j = off + (1 + k) * 1 + j by omega]
  · rw [List.getElem?_drop] at hs
    obtain ⟨d, a, r⟩ := h3 (1 + k) s hs
    exact ⟨d, by rw [List.getElem?_drop]; exact a, r⟩
set_option maxRecDepth 100000 in
set_option maxHeartbeats 4000000 in
theorem FnNetForm_walk (a0 : Option Addr) (n0 c0 : Nat) (a : Addr) (w : World) (h0 : Given w (.slice a0 n0 c0)) (hE : EPath w a) :
    Calls Tryd.prog 10 #[.slice a0 n0 c0] w fun e w' => e = .returned (.bool true) ∧ Below w.heap.size w w' := by
  by_cases hn0 : 1048576 < n0
  · have e0 : decide (1048576 < (n0 : Int)) = true := by simp; omega
    go_enter Tryd.func10, Tryd.ntmps10
    go_wp2
    go_ret
    exact ⟨rfl, Below.refl _ _⟩
  have e0 : decide (1048576 < (n0 : Int)) = false := by simp; omega
  have hF := Fb.start w
  go_enter Tryd.func10, Tryd.ntmps10
  go_wp2_with fail
  refine (drawNetOk_any _ _ h0).mono ?_; rintro e w1 ⟨v, u, M, W, home, rfl, hM, hW, hM5, hW5, hWK, hh1, hh10, hb1⟩
  clear h0
  replace hF := hF.below hb1
  replace hE := hE.below hb1
  clear hb1
  have HWK : Hid (∀ P ∈ W, P.length ≤ 3000000) := fun P hP => by have := hWK P hP; omega
  clear hWK
  obtain ⟨C, hC⟩ : ∃ C, decide (NetP M home W) = C := ⟨_, rfl⟩
  have HC := Lib.hid hC
  clear hC
  go_wp2_with fail
  refine (iNetOk_any v u M W home a _ hM.mat hW hE HWK.out).mono ?_; rw [HC.out]; rintro e w2 ⟨rfl, hb⟩
  replace hF := hF.below hb
  replace hM := hM.below hb
  replace hW := hW.below hb
  replace hE := hE.below hb
  clear hb
  go_wp2_with fail
  refine (sNetOk_any v u M W home _ hM.mat hW).mono ?_; rw [HC.out]; rintro e w3 ⟨rfl, hb⟩
  replace hF := hF.below hb
  replace hM := hM.below hb
  replace hW := hW.below hb
  replace hE := hE.below hb
  clear hb
  cases C with
  | false =>
    go_wp2_with fail
    refine (sNetOk_any v u M W home _ hM.mat hW).mono ?_; rw [HC.out]; rintro e w4 ⟨rfl, hb⟩
    replace hF := hF.below hb
    clear hb
    go_wp2
    go_ret
    exact ⟨rfl, hF.kp⟩
  | true =>
    have HN := Lib.hid (of_decide_eq_true HC.out)
    clear HC
    obtain ⟨ao, n, cap, rfl, hn, hnc, hcap⟩ := GLs.sl hW
    have hMn : M.length = n := by have := HN.out.1.2.2; have := hn.out; omega
    have hn1 : 0 < n := by have := HN.out.1.1.2.1; omega
    have hhn : home ≤ n := by have := HN.out.1.2.1; unfold Bts at this; omega
    obtain ⟨k, rfl⟩ : ∃ k : Nat, home = (k : Int) + 1 := ⟨(home - 1).toNat, by omega⟩
    have hkn : k < n := by omega
    obtain ⟨b1, p1, rfl⟩ := GLs.adr hW hn1
    obtain ⟨ds, hD, hDl, hDI⟩ := hW.ex
    have hD' : Rows w3 (.slice (some ⟨b1, p1, none⟩) n cap) 1 encV ds := hD
    have hdn : ds.length = n := by have := hn.out; omega
    have HDI := Lib.hid hDI
    have HD := Lib.hid hD'
    have HF := Lib.hid hF.kp
    have hone : Hid (∀ x ∈ ds, ∀ u ∈ encV x, u.oneCell' = true) := fun d hd x hx => by
      obtain ⟨i, hi, e⟩ := List.mem_iff_getElem.1 hd
      obtain ⟨s, hs⟩ := get_lt (L := W) (k := i) (by omega)
      obtain ⟨d', a1, b1⟩ := hDI i s hs
      rw [List.getElem?_eq_getElem hi, e] at a1
      injection a1 with a1
      subst a1
      simp [encV] at hx
      subst hx
      exact ints_oneC b1
    have hA := Rows.alloc hD' (.cells #[] 25)
    have hO4 : Own 25 (w3.alloc (.cells #[] 25)) w3.heap.size (.slice (some ⟨w3.heap.size, 0, none⟩) 0 0) 1 encV ([] : List Value) := Own.made _ _ _ _ _ (Nat.le_refl _)
    have hQ := (Fb.start w3).other (.cells #[] 25)
    have HM := Lib.hid hM
    have HW := Lib.hid hW
    have HE := Lib.hid hE
    clear hD hD' hDI hF hM hW hE
    go_upto_region 8 with ((at_builtin; go_must (refine wpList_appsZ rfl _ _ 49 rfl 25 (.slice none 0 0) 1 24 Tryd.underlying49 infoRow rfl (by decide) (by decide) w3.heap.size encV (fun _ => rfl) _ [] rfl hO4 (.slice (some ⟨b1, p1, none⟩) n cap) ds hone.out rfl hA (by simp; omega) (by simp only [World.size_alloc]; omega) ?_); intro vz wz hOz hgz hbz hfz; (rw [List.nil_append] at hOz; replace hQ := hQ.belowB hbz (Nat.le_refl _) (by simp); clear hgz hbz hfz hO4 hA)))
    obtain ⟨g1, q1, rfl⟩ : ∃ g q, vz = .slice (some ⟨g, 0, none⟩) n q := by
      rcases Own.form hOz with ⟨-, h0⟩ | ⟨g, q, e⟩
      · omega
      · exact ⟨g, q, by rw [← hdn]; exact e⟩
    obtain ⟨y, hy⟩ := get_lt (L := ds) (k := k) (by omega)
    have cy := OwnV.cell hOz hy
    have ly := OwnV.live hOz k
    have hO5 := OwnV.set hOz k (.slice none 0 0)
    have hg1 := hOz.ge g1 rfl
    have hQ5 := hQ.setAway ⟨g1, k, none⟩ (.slice none 0 0) hg1 (by simp)
    have s1 : IntKind.i64.wrap ((k : Int) + 1 - 1) = (k : Int) := by rw [show (k : Int) + 1 - 1 = (k : Int) by omega]; exact IntWalk.i64_in _ (by omega)
    clear hOz hQ hy
    go_upto_region 9 with (fail)
    obtain ⟨wb, hwb⟩ : ∃ wb : World, wb = wz.setCell ⟨g1, k, none⟩ (.slice none 0 0) := ⟨_, rfl⟩
    rw [← hwb] at hO5 hQ5 ⊢
    have hGA := Lib.hid (fun (wx : World) (K : Below wb.heap.size wb wx) => gls_put (hO5.below K) (hdn.trans hn.out.symm) HDI.out (hQ5.kp.trans (K.mono hQ5.kp.size)) (Rows.nil wx none 0 (Nat.zero_le _) 1 encI) (by have := hn.out; omega))
    have hKb := Lib.hid hQ5.kp
    clear hwb cy ly hO5
    have hA := Rows.alloc (Rows.below HD.out hQ5.kp) (.cells #[] 25)
    have hO4 : Own 25 (wb.alloc (.cells #[] 25)) wb.heap.size (.slice (some ⟨wb.heap.size, 0, none⟩) 0 0) 1 encV ([] : List Value) := Own.made _ _ _ _ _ (Nat.le_refl _)
    have hQ := (Fb.start wb).other (.cells #[] 25)
    clear hQ5
    go_upto_region 10 with ((at_builtin; go_must (refine wpList_appsZ rfl _ _ 49 rfl 25 (.slice none 0 0) 1 24 Tryd.underlying49 infoRow rfl (by decide) (by decide) wb.heap.size encV (fun _ => rfl) _ [] rfl hO4 (.slice (some ⟨b1, p1, none⟩) n cap) ds hone.out rfl hA (by simp; omega) (by simp only [World.size_alloc]; omega) ?_); intro vz wz hOz hgz hbz hfz; (rw [List.nil_append] at hOz; replace hQ := hQ.belowB hbz (Nat.le_refl _) (by simp); clear hgz hbz hfz hO4 hA)))
    obtain ⟨g2, q2, rfl⟩ : ∃ g q, vz = .slice (some ⟨g, 0, none⟩) n q := by
      rcases Own.form hOz with ⟨-, h0⟩ | ⟨g, q, e⟩
      · omega
      · exact ⟨g, q, by rw [← hdn]; exact e⟩
    obtain ⟨k2, hk2n, hk2, hk2v⟩ : ∃ k2 : Nat, k2 < n ∧ ((k : Int) + 1) % (n : Int) = (k2 : Int) ∧ (k2 = k → n = 1) := by
      by_cases hl : k + 1 < n
      · exact ⟨k + 1, hl, by rw [Int.emod_eq_of_lt (by omega) (by omega)]; rfl, fun e => by omega⟩
      · have e : n = k + 1 := by omega
        exact ⟨0, by omega, by rw [e]; simp, fun e2 => by omega⟩
    obtain ⟨y, hy⟩ := get_lt (L := ds) (k := k2) (by omega)
    have cy := OwnV.cell hOz hy
    have ly := OwnV.live hOz k2
    have hg2 := hOz.ge g2 rfl
    go_upto_region 11 with (fail)
    rw [hk2]
    have hgl := hOz.lt g2 rfl
    have hO6 := OwnV.set (hOz.alloc (.cells #[.int .i64 ((k : Int) + 1)] 3)) k2 (.slice (some ⟨wz.heap.size, 0, none⟩) 1 1)
    have hQ6 := (hQ.other (.cells #[.int .i64 ((k : Int) + 1)] 3)).setAway ⟨g2, k2, none⟩ (.slice (some ⟨wz.heap.size, 0, none⟩) 1 1) hg2 (by simp)
    have hI6 : Ints ((wz.alloc (.cells #[.int .i64 ((k : Int) + 1)] 3)).setCell ⟨g2, k2, none⟩ (.slice (some ⟨wz.heap.size, 0, none⟩) 1 1)) (.slice (some ⟨wz.heap.size, 0, none⟩) 1 1) [(k : Int) + 1] :=
      Rows.far ((Own.lit 3 wz wz.heap.size 1 encI [(k : Int) + 1] (fun _ => rfl) (Nat.le_refl _) (by simp)).rows (fun _ => rfl)) (grown_setC _ _ _) (fun g' h1 e => by simp [Value.ownBlock] at h1; injection e with e; dsimp only at e; omega)
    have hcm := World.setCell_alloc_past (w := wz) (.cells #[.int .i64 ((k : Int) + 1)] 3) g2 k2 (.slice (some ⟨wz.heap.size, 0, none⟩) 1 1) hgl
    rw [hcm] at hO6 hQ6 hI6
    clear hcm hOz hQ hy
    go_upto_region 12 with (fail)
    obtain ⟨wy, hwy⟩ : ∃ wy : World, wy = (wz.setCell ⟨g2, k2, none⟩ (.slice (some ⟨wz.heap.size, 0, none⟩) 1 1)).alloc (.cells #[.int .i64 ((k : Int) + 1)] 3) := ⟨_, rfl⟩
    rw [← hwy] at hO6 hQ6 hI6 ⊢
    clear hwy cy ly hgl
    have hGB := gls_put hO6 (hdn.trans hn.out.symm) HDI.out (hKb.out.trans (hQ6.kp.mono hKb.out.size)) hI6 (by have := hn.out; omega)
    have hGAy := hGA.out _ hQ6.kp
    have hKy := hKb.out.trans (hQ6.kp.mono hKb.out.size)
    have hB := Lib.hid (HF.out.trans (hKy.mono HF.out.size))
    have hM := HM.out.below hKy
    have hW := HW.out.below hKy
    have hE := HE.out.below hKy
    have n1 : Hid (decide (NetP M ((k : Int) + 1) (W.set k [])) = false) := decide_eq_false (netP_a HN.out rfl)
    have n3 : Hid (decide (NetP M ((k : Int) + 1) (W.drop 1)) = false) := decide_eq_false (netP_c HN.out)
    have w1 : Hid (∀ P ∈ W.set k [], P.length ≤ 3000000) := fun P hP => by
      rcases List.mem_or_eq_of_mem_set hP with h | h
      · exact HWK.out P h
      · rw [h]; simp
    have w2 : Hid (∀ P ∈ W.set k2 [(k : Int) + 1], P.length ≤ 3000000) := fun P hP => by
      rcases List.mem_or_eq_of_mem_set hP with h | h
      · exact HWK.out P h
      · rw [h]; simp
    have w3' : Hid (∀ P ∈ W.drop 1, P.length ≤ 3000000) := fun P hP => HWK.out P (List.mem_of_mem_drop hP)
    have hF := Fb.start wy
    clear hO6 hQ6 hI6 hGA hKb hKy HF HM HW HE HD HDI hone
    go_wp2_with fail
    refine (iNetOk_any v _ M _ ((k : Int) + 1) a _ hM.mat hGAy hE w1.out).mono ?_; rw [n1.out]; rintro e w6 ⟨rfl, hb⟩
    replace hF := hF.below hb
    replace hM := hM.below hb
    replace hW := hW.below hb
    replace hE := hE.below hb
    replace hGB := hGB.below hb
    clear hb hGAy
    by_cases hkk : k2 = k
    · have dk : ((k2 : Int) == (k : Int)) = true := by simp [hkk]
      have hn9 := hk2v hkk
      have e0 : W.drop 1 = [] := List.eq_nil_of_length_eq_zero (by rw [List.length_drop]; have := hn.out; omega)
      rw [e0] at n3
      have hNl := Lib.hid (fun (q : Option Addr) (c : Nat) (hc : c ≤ 9223372036854775807) (wx : World) => GLs.nil (S := shI) wx q c hc)
      clear hGB hW e0 w3' w1 w2
      go_wp2_with fail
      all_goals
        refine (iNetOk_any v _ M [] ((k : Int) + 1) a _ hM.mat (hNl.out _ _ (by omega) _) hE (fun P hP => by simp at hP)).mono ?_; rw [n3.out]; rintro e w8 ⟨rfl, hb⟩
        replace hF := hF.below hb
        go_wp2
        go_ret
        exact ⟨rfl, hB.out.trans (hF.kp.mono hB.out.size)⟩
    · have dk : ((k2 : Int) == (k : Int)) = false := by rw [beq_eq_false_iff_ne]; omega
      have n2 : Hid (decide (NetP M ((k : Int) + 1) (W.set k2 [(k : Int) + 1])) = false) := decide_eq_false (netP_b (by have := hn.out; omega) (by omega))
      go_wp2_with fail
      refine (iNetOk_any v _ M _ ((k : Int) + 1) a _ hM.mat hGB hE w2.out).mono ?_; rw [n2.out]; rintro e w7 ⟨rfl, hb⟩
      replace hF := hF.below hb
      replace hM := hM.below hb
      replace hW := hW.below hb
      replace hE := hE.below hb
      clear hb hGB
      go_wp2_with fail
      refine (iNetOk_any v _ M _ ((k : Int) + 1) a _ hM.mat (hW.tail hn1) hE w3'.out).mono ?_; rw [n3.out]; rintro e w8 ⟨rfl, hb⟩
      replace hF := hF.below hb
      go_wp2
      go_ret
      exact ⟨rfl, hB.out.trans (hF.kp.mono hB.out.size)⟩
end Go.Proofs.YtonojegnbcgnaaaDoor
