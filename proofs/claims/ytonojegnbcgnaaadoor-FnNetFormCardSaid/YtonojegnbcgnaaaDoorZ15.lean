/- Rows that lie between two bounds. Paths drawn. Nets drawn. -/
import Derived.Test.YtonojegnbcgnaaaDoorZ9
import Derived.Test.YtonojegnbcgnaaaDoorZ11
import Derived.Test.YtonojegnbcgnaaaDoorZ3
import Derived.Test.YtonojegnbcgnaaaDoorZ14
set_option linter.unusedSimpArgs false
set_option linter.unusedVariables false
namespace Go.Proofs.YtonojegnbcgnaaaDoor
open Go.RowKit Go.Maps Go.WideMaps

theorem Own.form {α : Type} {E : TypeId} {w : World} {B : Nat} {v : Value} {sz : Nat} {enc : α → List Value} {L : List α} (h : Own E w B v sz enc L) : (v = .slice none 0 0 ∧ L.length = 0) ∨ ∃ g cap, v = .slice (some ⟨g, 0, none⟩) L.length cap := by
  obtain ⟨h1, ⟨rfl, h2⟩ | ⟨g, cap, cur, rfl, h2, h3⟩⟩ := h
  · exact Or.inl ⟨rfl, h2⟩
  · exact Or.inr ⟨_, _, rfl⟩
/-- The row lies in blocks B to U, and reads as the list; what its elements hold too. -/
structure GB {δ β : Type} (S : Sh δ β) (E : TypeId) (w : World) (B U : Nat) (v : Value) (ds : List δ) (L : List β) : Prop where
  own : Own E w B v S.sz S.enc ds
  lt : ∀ g, v.ownBlock = some g → g < U
  rel : GRel S w B U v ds L
theorem GOwn.gb {δ β : Type} {S : Sh δ β} {E : TypeId} {w : World} {B : Nat} {v : Value} {L : List β} (h : GOwn S E w B v L) : ∃ ds, GB S E w B w.heap.size v ds L := by
  obtain ⟨ds, h1, h2⟩ := h
  exact ⟨ds, h1, h1.lt, h2⟩
theorem GB.below {δ β : Type} {S : Sh δ β} {E : TypeId} {w w' : World} {B U : Nat} {v : Value} {ds : List δ} {L : List β} (h : GB S E w B U v ds L) (K : Below w.heap.size w w') : GB S E w' B U v ds L := ⟨h.own.below K, h.lt, h.rel.below K⟩
theorem GB.set {δ β : Type} {S : Sh δ β} {E : TypeId} {w : World} {B U : Nat} {v : Value} {ds : List δ} {L : List β} (h : GB S E w B U v ds L) (a : Addr) (u : Value) (ha : a.block < B ∨ U ≤ a.block) : GB S E (w.setCell a u) B U v ds L :=
  ⟨Own.far h.own (grown_setC w a u) (fun g hg e => by injection e with e; have := h.lt g hg; have := h.own.ge g hg; omega), h.lt, h.rel.far (grown_setC w a u) (fun g h1 h2 e => by injection e with e; omega)⟩
theorem GB.gls {δ β : Type} {S : Sh δ β} {E : TypeId} {w : World} {B U : Nat} {v : Value} {ds : List δ} {L : List β} (h : GB S E w B U v ds L) : GLs S w v L :=
  ⟨ds, h.own.rows S.len, h.rel.1, fun k s hk => by obtain ⟨d, a, b, -⟩ := h.rel.2 k s hk; exact ⟨d, a, b⟩⟩
theorem GB.kp {δ β : Type} {S : Sh δ β} {E : TypeId} {w w' : World} {B U r : Nat} {v : Value} {ds : List δ} {L : List β} (h : GB S E w B U v ds L) (K : Kp r w w') (hr : r < B) : GB S E w' B U v ds L := ⟨h.own.kp K hr, h.lt, h.rel.kp K hr⟩
theorem GB.gown {δ β : Type} {S : Sh δ β} {E : TypeId} {w : World} {B U : Nat} {v : Value} {ds : List δ} {L : List β} (h : GB S E w B U v ds L) (hU : U ≤ w.heap.size) : GOwn S E w B v L := ⟨ds, h.own, h.rel.mono (Nat.le_refl _) hU⟩
theorem GB.sl {δ β : Type} {S : Sh δ β} {E : TypeId} {w : World} {B U : Nat} {v : Value} {ds : List δ} {L : List β} (h : GB S E w B U v ds L) : ∃ ao cap, v = .slice ao L.length cap := by
  obtain ⟨ao, cap, e⟩ := h.own.sl
  exact ⟨ao, cap, by rw [← h.rel.1]; exact e⟩
end Go.Proofs.YtonojegnbcgnaaaDoor
set_option linter.unusedSimpArgs false
set_option linter.unusedVariables false
namespace Go.Proofs.YtonojegnbcgnaaaDoor
open Go.RowKit

theorem Own.ints {E : TypeId} {w : World} {B : Nat} {v : Value} {L : List Int} (h : Own E w B v 1 encI L) : Ints w v L := h.rows (fun _ => rfl)
theorem Own.two {α : Type} {E : TypeId} {w : World} {B : Nat} {v : Value} {sz : Nat} {enc : α → List Value} {L : List α} (h : Own E w B v sz enc L) : (v = .slice none 0 0 ∧ L = []) ∨ ∃ g c n, v = .slice (some ⟨g, 0, none⟩) n c ∧ n ≤ c ∧ Hid (L.length = n) := by
  obtain ⟨_, ⟨rfl, h2⟩ | ⟨g, cap, cur, rfl, _, _, hnc, _⟩⟩ := h
  · exact Or.inl ⟨rfl, List.length_eq_zero_iff.1 h2⟩
  · exact Or.inr ⟨g, cap, _, rfl, hnc, rfl⟩
/-- A row of numbers, nil or somewhere. -/
def It (w : World) (v : Value) (L : List Int) : Prop := Ints w v L ∧ (v = .slice none 0 0 ∨ ∃ b off n c, v = .slice (some ⟨b, off, none⟩) n c)
theorem It.below {w w' : World} {v : Value} {L : List Int} (h : It w v L) (hb : Below w.heap.size w w') : It w' v L := ⟨Rows.below h.1 hb, h.2⟩
theorem Own.it {E : TypeId} {w : World} {B : Nat} {v : Value} {L : List Int} (h : Own E w B v 1 encI L) : It w v L := by
  refine ⟨h.ints, ?_⟩
  rcases h.two with ⟨h, _⟩ | ⟨g, c, n, h, _, _⟩
  · exact Or.inl h
  · exact Or.inr ⟨g, 0, n, c, h⟩
set_option maxHeartbeats 2000000 in
theorem l91Path_any (r k : Nat) (w : World) (hR : Rd w r k) (hk : k ≤ 700000) :
    Calls Tryd.prog 73 #[.pointer (some ⟨r, 0, none⟩)] w fun e w' => ∃ (v : Value) (L : List Int), e = .returned v ∧ Own 3 w' w.heap.size v 1 encI L ∧ L.length ≤ 4 ∧ (∀ x ∈ L, Bts x 1 5) ∧ (∃ k', k' ≤ k + 20 ∧ Rd w' r k') ∧ Kp r w w' := by
  have hr := hR.lt
  have hF := (Fr.start r w).other (.cells #[] 3)
  have hO : Own 3 (w.alloc (.cells #[] 3)) w.heap.size (.slice (some ⟨w.heap.size, 0, none⟩) 0 0) 1 encI [] := Own.made _ _ _ _ _ (Nat.le_refl _)
  replace hR := hR.alloc (.cells #[] 3)
  go_enter Tryd.func73, Tryd.ntmps73
  go_wp2_with ((go_at_call 37; go_must (refine (pick_any r _ _ _ hR (by omega) (by omega) (by omega)).mono ?_); rintro e wx ⟨vx, rfl, ux, lx, hRx, hKx⟩; replace hF := hF.call hKx; replace hR := hRx; (try replace hO := Own.kp hO hKx hr); have hsx := hKx.size; clear hRx hKx))
  obtain ⟨m0, rfl⟩ := Int.eq_ofNat_of_zero_le ux
  have hs0 : w.heap.size ≤ wx.heap.size := by simp only [World.size_alloc] at hsx; omega
  clear hsx
  go_loopw [3, 4, 5] (fun s3 s4 s5 wr => ∃ (m k' : Nat) (L : List Int), s4 = .int .i64 m ∧ L.length + m ≤ 4 ∧ k' + 3 * m ≤ k + 15 ∧ Hid (∀ x ∈ L, Bts x 1 5) ∧ Own 3 wr w.heap.size s3 1 encI L ∧ Rd wr r k' ∧ Fr r w wr [] ∧ w.heap.size ≤ wr.heap.size) (fun _ s4 _ _ => (intOf s4).toNat)
  case atStart => exact ⟨m0, k + 1, [], rfl, by simp; omega, by omega, by show ∀ x ∈ _, _; simp, hO, hR, hF, hs0⟩
  case round =>
    clear hF hR hO hs0
    obtain ⟨m, k', L, rfl, hL, hk', hH, hO, hR, hF, hsz⟩ := hrel
    by_cases hm : 0 < m
    · have hm' : 0 < (m : Int) := by omega
      obtain ⟨m', hm1, hm2⟩ : ∃ m', m' + 1 ≤ m ∧ m ≤ m' + 1 := ⟨m - 1, by omega, by omega⟩
      have hsub : (m : Int) - 1 = (m' : Int) := by omega
      go_wp2_with ((go_at_call 37; go_must (refine (pick_any r _ _ _ hR (by omega) (by omega) (by omega)).mono ?_); rintro e wx ⟨vx, rfl, ux, lx, hRx, hKx⟩; replace hF := hF.call hKx; replace hR := hRx; (try replace hO := Own.kp hO hKx hr); have hsx := hKx.size; clear hRx hKx))
      obtain ⟨h, hh⟩ : ∃ h : Int, 1 + vx = h := ⟨_, rfl⟩
      rw [hh]
      have hB : Bts h 1 5 := by unfold Bts; omega
      have hH2 : Hid (∀ x ∈ L ++ [h], Bts x 1 5) := by
        show ∀ x ∈ _, _
        intro x hx
        rcases List.mem_append.1 hx with g | g
        · exact hH.out x g
        · rw [List.mem_singleton.1 g]; exact hB
      clear ux lx
      by_cases hin : h ∈ L
      · have d : decide (h ∈ L) = true := by simp [hin]
        clear hin hh
        refine (l3Has_any _ _ _ _ hO.ints).mono ?_; rintro e wy ⟨rfl, hby⟩
        replace hR := hR.below hby hR.lt
        replace hF := hF.below hby
        replace hO := hO.below hby
        have hsy := hby.size
        clear hby
        go_wp2_with fail
        refine (pick_any r _ _ _ hR (by omega) (by omega) (by omega)).mono ?_; rintro e wx ⟨vx, rfl, ux, lx, hRx, hKx⟩
        replace hF := hF.call hKx
        replace hR := hRx
        replace hO := Own.kp hO hKx hr
        have hsx2 := hKx.size
        clear hRx hKx
        by_cases hz : vx = 0
        · subst hz
          go_wp2_with ((at_builtin; refine wpList_app rfl _ _ 25 rfl 3 (.int .i64 0) 1 8 Tryd.underlying25 infoInt rfl (by decide) (by decide) w.heap.size encI _ _ rfl (hO.alloc _) (h) ⟨_, 0, none⟩ 1 rfl rfl (cells_new _ _ _) (by simp [encI, Value.oneCell']) (by omega) (by simp only [World.size_alloc]; omega) ?_; intro v' wx hO1 hg1 hb1 hf1; (have hsz9 := hb1.size; simp only [World.size_alloc] at hsz9; replace hO := hO1; replace hR := (hR.alloc _).below hb1 hr; replace hF := (hF.other _).belowB hb1 (Nat.le_refl _) (by simp); clear hO1 hg1 hb1 hf1)))
          go_roundw
          case rel => exact ⟨m', k' + 1 + 1, L ++ [h], by go_num, by simp; omega, by omega, hH2, hO, hR, hF, by omega⟩
          case measure => simp [intOf]; omega
        · have dz : (vx == 0) = false := by simp [hz]
          clear hz
          go_wp2_with fail
          go_roundw
          case rel => exact ⟨m', k' + 1 + 1, L, by go_num, by omega, by omega, hH, hO, hR, hF, by omega⟩
          case measure => simp [intOf]; omega
      · have d : decide (h ∈ L) = false := by simp [hin]
        clear hin hh
        refine (l3Has_any _ _ _ _ hO.ints).mono ?_; rintro e wy ⟨rfl, hby⟩
        replace hR := hR.below hby hR.lt
        replace hF := hF.below hby
        replace hO := hO.below hby
        have hsy := hby.size
        clear hby
        go_wp2_with ((at_builtin; refine wpList_app rfl _ _ 25 rfl 3 (.int .i64 0) 1 8 Tryd.underlying25 infoInt rfl (by decide) (by decide) w.heap.size encI _ _ rfl (hO.alloc _) (h) ⟨_, 0, none⟩ 1 rfl rfl (cells_new _ _ _) (by simp [encI, Value.oneCell']) (by omega) (by simp only [World.size_alloc]; omega) ?_; intro v' wx hO1 hg1 hb1 hf1; (have hsz9 := hb1.size; simp only [World.size_alloc] at hsz9; replace hO := hO1; replace hR := (hR.alloc _).below hb1 hr; replace hF := (hF.other _).belowB hb1 (Nat.le_refl _) (by simp); clear hO1 hg1 hb1 hf1)))
        go_roundw
        case rel => exact ⟨m', k' + 1, L ++ [h], by go_num, by simp; omega, by omega, hH2, hO, hR, hF, by omega⟩
        case measure => simp [intOf]; omega
    · obtain rfl : m = 0 := by omega
      go_wp2_with fail
      go_ret
      exact ⟨_, L, rfl, hO, by omega, hH.out, ⟨k', by omega, hR⟩, hF.kp⟩
end Go.Proofs.YtonojegnbcgnaaaDoor
set_option linter.unusedSimpArgs false
set_option linter.unusedVariables false
namespace Go.Proofs.YtonojegnbcgnaaaDoor
open Go.RowKit Go.Maps Go.WideMaps

theorem MatO.gown {E : TypeId} {w : World} {B n : Nat} {v : Value} {vs : List Value} (h : MatO E w B n v vs) (hn : 0 < n) (hv : 0 < vs.length) : ∃ M, GOwn shI E w B v M ∧ M.length = vs.length := by
  obtain ⟨M, hM, hl, hr⟩ := h.mat
  have hO : Own E w B v 1 encV vs := by unfold Own; rw [← flat_encV]; exact h.own
  refine ⟨M, ⟨vs, hO, hl.symm, fun i s hs => ?_⟩, hl⟩
  obtain ⟨vs', hR, hl', hx⟩ := hM.ex
  obtain ⟨u, hu, hI⟩ := hx i s hs
  obtain ⟨u2, hu2⟩ := get_lt (L := vs) (k := i) (by rw [← hl]; exact (List.getElem?_eq_some_iff.1 hs).1)
  obtain ⟨g, cap, rfl, -, -, -⟩ := h.slice hv
  have c1 := Rows.get hR hu (j := 0) rfl
  have c2 := Rows.get (hO.rows (fun _ => rfl)) hu2 (j := 0) rfl
  rw [c1] at c2
  injection c2 with c2
  subst c2
  refine ⟨u, hu2, hI, fun x hx => ?_⟩
  rw [List.mem_singleton.1 hx]
  obtain ⟨g2, c, rfl, q1, q2, q3, q4⟩ := h.rows u (List.mem_of_getElem? hu2)
  obtain ⟨y, e1, -⟩ := q4 0 hn
  exact ⟨fun g' h1 h2 => h.ne hn (List.mem_of_getElem? hu2) g' h1 h2.symm, fun g' h1 => by simp [Value.ownBlock] at h1; subst h1; exact ⟨q3, World.block_lt_of_cell? _ _ e1⟩⟩
theorem GOwn.form {δ β : Type} {S : Sh δ β} {E : TypeId} {w : World} {B : Nat} {v : Value} {L : List β} (h : GOwn S E w B v L) (hn : 0 < L.length) : ∃ g cap, v = .slice (some ⟨g, 0, none⟩) L.length cap := by
  obtain ⟨ds, h1, h2⟩ := h
  rcases Own.form h1 with ⟨-, h0⟩ | ⟨g, cap, e⟩
  · have := h2.1; omega
  · exact ⟨g, cap, by rw [← h2.1]; exact e⟩
theorem gown_put {E : TypeId} {w : World} {B g n cap : Nat} {W : List (List Int)} (h : GOwn shI E w B (.slice (some ⟨g, 0, none⟩) n cap) W) {i : Nat} (hi : i < W.length) {u : Value} {P : List Int} (hI : Ints w u P) (hu : ∀ g', u.ownBlock = some g' → B ≤ g' ∧ g' < w.heap.size ∧ g' ≠ g) :
    GOwn shI E (w.setCell ⟨g, i, none⟩ u) B (.slice (some ⟨g, 0, none⟩) n cap) (W.set i P) := by
  obtain ⟨ds, h1, h2⟩ := h
  have hO : Own E w B (.slice (some ⟨g, 0, none⟩) n cap) 1 encV ds := h1
  refine ⟨ds.set i u, OwnV.set hO i u, by simp [h2.1], fun j s hs => ?_⟩
  have hap : ∀ x : Value, Apart x (.slice (some ⟨g, 0, none⟩) n cap) → ∀ g', x.ownBlock = some g' → (some g : Option Nat) ≠ some g' := fun x hx g' h1 e => by
    injection e with e
    subst e
    exact hx _ h1 rfl
  by_cases hij : i = j
  · subst hij
    rw [List.getElem?_set_self hi] at hs
    injection hs with hs
    subst hs
    refine ⟨u, by rw [List.getElem?_set_self (by rw [h2.1]; exact hi)], Rows.far hI (grown_setC _ _ _) (fun g' h1 e => by injection e with e; have := (hu g' h1).2.2; dsimp only at e; omega), fun x hx => ?_⟩
    rw [List.mem_singleton.1 hx]
    exact ⟨fun g' h1 h2 => by simp [Value.ownBlock] at h2; have := (hu g' h1).2.2; omega, fun g' h1 => by have := hu g' h1; simp only [World.size_setCell]; omega⟩
  · rw [List.getElem?_set_ne hij] at hs
    obtain ⟨d, a, b, c⟩ := h2.2 j s hs
    exact ⟨d, by rw [List.getElem?_set_ne hij]; exact a, shI.keep (grown_setC _ _ _) (fun x hx => hap x (c x hx).1) b, fun x hx => ⟨(c x hx).1, fun g' h1 => by simp only [World.size_setCell]; exact (c x hx).2 g' h1⟩⟩
set_option maxRecDepth 100000 in
set_option maxHeartbeats 4000000 in
theorem l92Net_any (r k : Nat) (w : World) (hR : Rd w r k) (hk : k ≤ 500000) :
    Calls Tryd.prog 72 #[.pointer (some ⟨r, 0, none⟩)] w fun e w' => ∃ (v u : Value) (M W : List (List Int)) (home : Int) (ms : List Value) (U : Nat), e = .returned (.tuple #[v, .int .i64 home, u]) ∧ GB shI 25 w' w.heap.size U v ms M ∧ GOwn shI 25 w' U u W ∧ w.heap.size ≤ U ∧ U ≤ w'.heap.size ∧ M.length ≤ 5 ∧ W.length ≤ 5 ∧ (∀ P ∈ W, P.length ≤ 1000) ∧ 1 ≤ home ∧ home ≤ 5 ∧ (∃ k', k' ≤ k + 1000 ∧ Rd w' r k') ∧ Kp r w w' := by
  have hr := hR.lt
  go_enter Tryd.func72, Tryd.ntmps72
  go_wp2_with fail
  refine (l91Rels_any r k _ hR (by omega)).mono ?_; rintro e w1 ⟨v, vs, n, rfl, hn2, hn5, hvs, hM, ⟨k1, hk1, hR1⟩, hK⟩
  obtain ⟨M, hO, hMl⟩ := hM.gown (by omega) (by omega)
  obtain ⟨ms, hO⟩ := hO.gb
  have hs1 := hK.size
  obtain ⟨U1, hU1⟩ : ∃ U1, w1.heap.size = U1 := ⟨_, rfl⟩
  rw [hU1] at hO hs1
  have hn : Hid (M.length = n) := hMl.trans hvs
  obtain ⟨ao, cap, rfl⟩ := hO.sl
  rw [hn.out] at hO ⊢
  clear hM hvs hMl hR
  have hsu : w.heap.size ≤ U1 := hs1
  go_wp2_with fail
  refine (pick_any r k1 n _ hR1 (by omega) (by omega) (by omega)).mono ?_; rintro e w2 ⟨v2, rfl, u2, l2, hR2, hK2⟩
  replace hO := hO.kp hK2 hr
  replace hK := hK.trans hK2
  have hszu : U1 ≤ w2.heap.size := by have := hK2.size; omega
  clear hU1
  have q1 : IntKind.i64.wrap (1 + v2) = 1 + v2 := IntWalk.i64_in _ (by omega)
  clear hK2 hR1 vs
  obtain ⟨home, hho⟩ : ∃ home, 1 + v2 = home := ⟨_, rfl⟩
  rw [hho] at q1
  have hb : Bts home 1 n := by unfold Bts; omega
  go_wp2_with fail
  refine (sNetNone_any _ M home _ hO.gls.mat).mono ?_; rintro e w3 ⟨u, rfl, hW, hb3⟩
  replace hO := hO.below hb3
  replace hR2 := hR2.below hb3 (by exact hR2.lt)
  replace hK := hK.of_below hb3
  replace hW := hW.base hszu
  have hb3s := hb3.size
  clear hb3
  obtain ⟨W, hWe⟩ : ∃ W, noneW M home = W := ⟨_, rfl⟩
  rw [hWe] at hW
  have hWK : Hid ((W = [] ∨ (W.length = n ∧ RelsP M)) ∧ WaysK n 1 W) := by
    subst hWe
    by_cases hc : RelsP M
    · have e := noneW_yes hc (home := home) (by rw [hn.out]; exact hb)
      rw [e]
      refine ⟨Or.inr ⟨by rw [noneL_len]; exact hn.out, hc⟩, fun P hP => ?_⟩
      unfold noneL at hP
      obtain ⟨i, -, rfl⟩ := List.mem_map.1 hP
      unfold noneR
      split
      · exact ⟨by simp, fun x hx => by rw [List.mem_singleton.1 hx]; exact hb⟩
      · exact ⟨by simp, fun x hx => by simp at hx⟩
    · rw [noneW_no (fun g => hc g.1)]
      exact ⟨Or.inl rfl, fun P hP => by simp at hP⟩
  clear hWe
  go_wp2_with fail
  refine (pick_any r _ 20 _ hR2 (by omega) (by omega) (by omega)).mono ?_; rintro e w4 ⟨v4, rfl, u4, l4, hR4, hK4⟩
  replace hO := hO.kp hK4 hr
  replace hW := hW.kp hK4 (by omega)
  have hU4 : U1 ≤ w4.heap.size := by have h1 := hb3s; have h2 := hK4.size; omega
  replace hK := hK.trans hK4
  obtain ⟨c0, rfl⟩ := Int.eq_ofNat_of_zero_le u4
  have hsz0 := hK.size
  clear hK4 hR2 u4
  have HBh := Lib.hid hb
  clear hb hho
  go_wp2
  go_loopw [8, 7] (fun s8 s7 wr => ∃ (c k' K : Nat) (W : List (List Int)), s8 = .int .i64 c ∧ K + c ≤ 20 + 1 ∧ c ≤ 20 ∧ k' + c * 2 ≤ k + 150 + 40 ∧ Hid ((W = [] ∨ (W.length = n ∧ RelsP M)) ∧ WaysK n K W) ∧ GB shI 25 wr w.heap.size U1 (.slice ao n cap) ms M ∧ GOwn shI 25 wr U1 s7 W ∧ Rd wr r k' ∧ Kp r w wr ∧ U1 ≤ wr.heap.size) (fun s8 _ _ => (intOf s8).toNat)
  case atStart => exact ⟨c0, _, 1, W, rfl, by omega, by omega, by omega, hWK, hO, hW, hR4, hK, hU4⟩
  case round =>
    clear hO hW hR4 hK hWK
    obtain ⟨c, k', K, W, rfl, hKc, hc20, hk', hWK, hO, hW, hR, hK, hU⟩ := hrel
    obtain ⟨bo, bcap, rfl⟩ := hW.sl
    obtain ⟨m, hm⟩ : ∃ m, Hid (W.length = m) := ⟨_, rfl⟩
    rw [hm.out] at hW ⊢
    by_cases hgo : 0 < c ∧ 0 < m
    · obtain ⟨hc0, hm0⟩ := hgo
      have d1 : decide (0 < (c : Int)) = true := decide_eq_true (by omega)
      have d2 : decide (0 < (m : Int)) = true := decide_eq_true (by omega)
      have d2' : decide (0 < m) = true := decide_eq_true hm0
      obtain ⟨hW2, hWp⟩ : W.length = n ∧ RelsP M := hWK.out.1.resolve_left (fun e => by have := hm.out; rw [e] at this; simp at this; omega)
      have hmn : m = n := hm.out.symm.trans hW2
      subst hmn
      have HP := Lib.hid hWp
      clear hWp hW2
      go_wp2_with fail
      refine (pick_any r k' m _ hR (by omega) (by omega) (by omega)).mono ?_; rintro e wx ⟨x, rfl, u1, l1, hRx, hKx⟩
      replace hO := hO.kp hKx hr
      replace hW := hW.kp hKx (by omega)
      have hUx := Nat.le_trans hU hKx.size
      replace hK := hK.trans hKx
      have q2 : IntKind.i64.wrap (1 + x) = 1 + x := IntWalk.i64_in _ (by omega)
      have hbx : Bts (1 + x) 1 m := by unfold Bts; omega
      clear hKx hR
      go_wp2_with fail
      refine (l31Step_any _ _ M W m K hn HP home (1 + x) wx hO.gls.mat hW.gls hm.out hWK.out.2 (by omega) hbx HBh.out).mono ?_; rintro e wy ⟨u5, W5, rfl, hW5, hl5, hK5, hby⟩
      replace hO := hO.below hby
      replace hRx := hRx.below hby (by exact hRx.lt)
      replace hW5 := hW5.base hUx
      have hUy := Nat.le_trans hUx hby.size
      replace hK := hK.of_below hby
      have hWK5 : Hid ((W5 = [] ∨ (W5.length = m ∧ RelsP M)) ∧ WaysK m (K + 1) W5) := ⟨Or.inr ⟨hl5, HP.out⟩, hK5⟩
      clear hby hW hK5
      go_wp2
      go_roundw
      case rel => exact ⟨c - 1, k' + 1, K + 1, W5, by go_num, by omega, by omega, by omega, hWK5, hO, hW5, hRx, hK, hUy⟩
      case measure => simp [intOf]; omega
    · have hWl5 : m ≤ 5 := by
        have hm9 := hm.out
        rcases hWK.out.1 with e | e
        · rw [e] at hm9; simp at hm9; omega
        · omega
      have hKl : Hid (∀ P ∈ W, P.length ≤ 1000) := fun P hP => by have := (hWK.out.2 P hP).1; omega
      by_cases hc0 : 0 < c
      · have hm0 : m = 0 := by omega
        subst hm0
        have d1 : decide (0 < (c : Int)) = true := decide_eq_true (by omega)
        have d3 : ((0 : Int) == (n : Int)) = false := by rw [beq_eq_false_iff_ne]; omega
        have d3' : (0 == n) = false := by rw [beq_eq_false_iff_ne]; omega
        clear hgo
        go_wp2
        refine bodyPost_ret (v := .tuple #[.slice ao n cap, .int .i64 home, (.slice bo 0 bcap)]) ?_ rfl ?_
        · simp [results, Tryd.results72, go_sem]
        · exact ⟨_, _, M, W, home, ms, U1, rfl, hO, hW, hsu, hU, (by have := hn.out; omega), (by have := hm.out; omega), hKl.out, HBh.out.1, (by have := HBh.out.2; omega), ⟨k', by omega, hR⟩, ‹Kp r w _›⟩
      · have hc9 : c = 0 := by omega
        subst hc9
        clear hgo
        by_cases hmn : m = n
        · have hnm := hmn.symm
          subst hnm
          have HP : Hid (RelsP M) := (hWK.out.1.resolve_left (fun e => by have := hm.out; rw [e] at this; simp at this; omega)).2
          go_wp2_with fail
          refine (pick_any r k' 3 _ hR (by omega) (by omega) (by omega)).mono ?_; rintro e w5 ⟨v5, rfl, u5, l5, hR5, hK5⟩
          replace hO := hO.kp hK5 hr
          replace hW := hW.kp hK5 (by omega)
          have hU5 := Nat.le_trans hU hK5.size
          replace hK := hK.trans hK5
          clear hK5 hR hU
          by_cases h50 : v5 = 0
          · subst h50
            go_wp2_with fail
            refine (pick_any r _ n _ hR5 (by omega) (by omega) (by omega)).mono ?_; rintro e w6 ⟨v6, rfl, u6, l6, hR6, hK6⟩
            replace hO := hO.kp hK6 hr
            replace hW := hW.kp hK6 (by omega)
            have hU6 := Nat.le_trans hU5 hK6.size
            replace hK := hK.trans hK6
            obtain ⟨h6, rfl⟩ := Int.eq_ofNat_of_zero_le u6
            have hsw := hW.lt
            clear hK6 hR5 hU5 u5 l5 u6
            go_wp2_with fail
            refine (l91Path_any r _ _ hR6 (by omega)).mono ?_; rintro e w7 ⟨pv, P, rfl, hOp, hP4, hPx, ⟨k7, hk7, hR7⟩, hK7⟩
            replace hO := hO.kp hK7 hr
            replace hW := hW.kp hK7 (by omega)
            have hU7 := Nat.le_trans hU6 hK7.size
            replace hK := hK.trans hK7
            obtain ⟨po, pc, rfl⟩ := hOp.sl
            have q6 : IntKind.i64.wrap ((h6 : Int) + 1) = (h6 : Int) + 1 := IntWalk.i64_in _ (by omega)
            obtain ⟨C, hC⟩ : ∃ C, decide (WayP M home P ((h6 : Int) + 1)) = C := ⟨_, rfl⟩
            have cW := l31Way_any (.slice ao n cap) (.slice po P.length pc) M home ((h6 : Int) + 1) P w7 hO.gls.mat (hOp.rows (fun _ => rfl)) HP.out
            rw [hC] at cW
            have CW := Lib.hid cW
            have hge := Lib.hid hOp.ge
            have hlp := Lib.hid hOp.lt
            clear hK7 hR6 hC cW hPx
            go_wp2_with fail
            refine CW.out.mono ?_; rintro e w8 ⟨rfl, hb8⟩
            have hK8 := hK.of_below hb8
            replace hO := hO.below hb8
            replace hW := hW.below hb8
            have hR8 := hR7.below hb8 (by exact hR7.lt)
            have hU8 := Nat.le_trans hU7 hb8.size
            have hI := Lib.hid (Rows.below (hOp.rows (fun _ => rfl)) hb8)
            have hs78 := hb8.size
            clear hb8 CW hR7 hK hOp
            have hK := hK8
            clear hK8
            cases C with
            | false =>
              go_wp2
              refine bodyPost_ret (v := .tuple #[.slice ao n cap, .int .i64 home, (.slice bo n bcap)]) ?_ rfl ?_
              · simp [results, Tryd.results72, go_sem]
              · exact ⟨_, _, M, W, home, ms, U1, rfl, hO, hW, hsu, hU8, (by have := hn.out; omega), (by have := hm.out; omega), hKl.out, HBh.out.1, (by have := HBh.out.2; omega), ⟨k7, by omega, hR8⟩, ‹Kp r w _›⟩
            | true =>
              have hWn : W.length = n := hm.out
              obtain ⟨g, cap', e⟩ := hW.form (by omega)
              injection e with e1 e2 e3
              subst e1
              obtain ⟨ds, hWo, hWr⟩ := id hW
              have hWo2 : Own 25 w8 U1 (.slice (some ⟨g, 0, none⟩) n bcap) 1 encV ds := hWo
              obtain ⟨y, hy⟩ := get_lt (L := ds) (k := h6) (by rw [hWr.1]; omega)
              have cy := OwnV.cell hWo2 hy
              have ly := OwnV.live hWo2 h6
              have hg6 := hsw g rfl
              have hgU := hWo2.ge g rfl
              have hW9 := gown_put hW (i := h6) (by omega) hI.out (fun g' h1 => by have := hge.out g' h1; have := hlp.out g' h1; omega)
              have hO9 := hO.set ⟨g, h6, none⟩ (.slice po P.length pc) (Or.inr hgU)
              have hK9 := hK.setCell (p := ⟨g, h6, none⟩) (Or.inl (by dsimp only; omega)) (.slice po P.length pc)
              have hR9 := hR8.setCell (p := ⟨g, h6, none⟩) (by dsimp only; omega) (.slice po P.length pc)
              have hU9 : U1 ≤ (w8.setCell ⟨g, h6, none⟩ (.slice po P.length pc)).heap.size := by rw [World.size_setCell]; exact hU8
              have hKl9 : Hid (∀ R ∈ W.set h6 P, R.length ≤ 1000) := fun R hR => by
                rcases List.mem_or_eq_of_mem_set hR with hR | hR
                · exact hKl.out R hR
                · rw [hR]; omega
              have hWl9 : Hid ((W.set h6 P).length ≤ 5) := by show _ ≤ _; rw [List.length_set]; omega
              clear e2 e3 hWo hWo2 hWr hy hW hO hK hR8 hU8 hsw hg6 hgU hWn
              go_wp2
              refine bodyPost_ret (v := .tuple #[.slice ao n cap, .int .i64 home, (.slice (some ⟨g, 0, none⟩) n bcap)]) ?_ rfl ?_
              · simp [results, Tryd.results72, go_sem]
              · exact ⟨_, _, M, (W.set h6 P), home, ms, U1, rfl, hO9, hW9, hsu, hU9, (by have := hn.out; omega), hWl9.out, hKl9.out, HBh.out.1, (by have := HBh.out.2; omega), ⟨k7, by omega, hR9⟩, ‹Kp r w _›⟩
          · have d5 : (v5 == 0) = false := by rw [beq_eq_false_iff_ne]; exact h50
            go_wp2
            refine bodyPost_ret (v := .tuple #[.slice ao n cap, .int .i64 home, (.slice bo n bcap)]) ?_ rfl ?_
            · simp [results, Tryd.results72, go_sem]
            · exact ⟨_, _, M, W, home, ms, U1, rfl, hO, hW, hsu, hU5, (by have := hn.out; omega), (by have := hm.out; omega), hKl.out, HBh.out.1, (by have := HBh.out.2; omega), ⟨(k' + 1), by omega, hR5⟩, ‹Kp r w _›⟩
        · have d3 : ((m : Int) == (n : Int)) = false := by rw [beq_eq_false_iff_ne]; omega
          have d3' : (m == n) = false := by rw [beq_eq_false_iff_ne]; omega
          clear hmn
          go_wp2
          refine bodyPost_ret (v := .tuple #[.slice ao n cap, .int .i64 home, (.slice bo m bcap)]) ?_ rfl ?_
          · simp [results, Tryd.results72, go_sem]
          · exact ⟨_, _, M, W, home, ms, U1, rfl, hO, hW, hsu, hU, (by have := hn.out; omega), (by have := hm.out; omega), hKl.out, HBh.out.1, (by have := HBh.out.2; omega), ⟨k', by omega, hR⟩, ‹Kp r w _›⟩
end Go.Proofs.YtonojegnbcgnaaaDoor
