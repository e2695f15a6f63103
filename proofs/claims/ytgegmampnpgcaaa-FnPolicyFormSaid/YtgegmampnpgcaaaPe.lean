/- Policies drawn; FnPolicyForm: the walk. -/
import Derived.Test.YtgegmampnpgcaaaPd
import Derived.Test.YtgegmampnpgcaaaDe
set_option linter.unusedSimpArgs false
set_option linter.unusedVariables false
namespace Go.Proofs.Ytgegmampnpgcaaa
open Go.RowKit

theorem own_two {α : Type} {E : TypeId} {w : World} {B : Nat} {v : Value} {sz : Nat} {enc : α → List Value} {L : List α} (h : Own E w B v sz enc L) : (v = .slice none 0 0 ∧ L = []) ∨ ∃ g c n, v = .slice (some ⟨g, 0, none⟩) n c ∧ n ≤ c ∧ Hid (L.length = n) := by
  obtain ⟨_, ⟨rfl, h2⟩ | ⟨g, cap, cur, rfl, _, _, hnc, _⟩⟩ := h
  · exact Or.inl ⟨rfl, List.length_eq_zero_iff.1 h2⟩
  · exact Or.inr ⟨g, cap, _, rfl, hnc, rfl⟩
def slLn : Value → Nat | .slice _ n _ => n | _ => 0
set_option maxHeartbeats 4000000 in
theorem l91Policy_any (r k : Nat) (w : World) (hR : Rd w r k) (hk : k ≤ 700000) :
    Calls Try.prog 8 #[.pointer (some ⟨r, 0, none⟩)] w fun e w' => ∃ (v : Value) (P : List ClD), e = .returned v ∧ Own 29 w' w.heap.size v 8 encC P ∧ P.length ≤ 4 ∧ v ≠ .slice none 0 0 ∧ (∃ k', k' ≤ k + 200 ∧ Rd w' r k') ∧ Kp r w w' := by
  have hr := hR.lt
  have hF := (Fr.start r w).other (.cells #[] 29)
  have hO : Own 29 (w.alloc (.cells #[] 29)) w.heap.size (.slice (some ⟨w.heap.size, 0, none⟩) 0 0) 8 encC [] := Own.made _ _ _ _ _ (Nat.le_refl _)
  replace hR := hR.alloc (.cells #[] 29)
  go_enter Try.func8, Try.ntmps8
  go_wp2_with ((go_at_call 9; go_must (refine (pick_any r _ _ _ hR (by omega) (by omega) (by omega)).mono ?_); rintro e wx ⟨vx, rfl, ux, lx, hRx, hKx⟩; replace hF := hF.call hKx; replace hR := hRx; (try replace hO := Own.kp hO hKx hr); have hsx := hKx.size; clear hRx hKx))
  obtain ⟨m0, rfl⟩ := Int.eq_ofNat_of_zero_le ux
  have hs0 : w.heap.size ≤ wx.heap.size := by simp only [World.size_alloc] at hsx; omega
  clear hsx
  go_loopw [3, 4] (fun s3 s4 wr => ∃ (m k' : Nat) (P : List ClD), s4 = .int .i64 m ∧ P.length + m ≤ 3 ∧ k' + 40 * m ≤ k + 130 ∧ Own 29 wr w.heap.size s3 8 encC P ∧ Hid (s3 ≠ .slice none 0 0) ∧ Rd wr r k' ∧ Fr r w wr [] ∧ w.heap.size ≤ wr.heap.size) (fun _ s4 _ => (intOf s4).toNat)
  case atStart => exact ⟨m0, k + 1, [], rfl, by simp; omega, by omega, hO, (by show _ ≠ _; simp), hR, hF, hs0⟩
  case round =>
    clear hF hR hO hs0
    obtain ⟨m, k', P, rfl, hL, hk', hO, hne, hR, hF, hsz⟩ := hrel
    by_cases hm : 0 < m
    · have hm' : 0 < (m : Int) := by omega
      obtain ⟨m', hm1, hm2⟩ : ∃ m', m' + 1 ≤ m ∧ m ≤ m' + 1 := ⟨m - 1, by omega, by omega⟩
      have hsub : (m : Int) - 1 = (m' : Int) := by omega
      go_wp2_with fail
      refine (l91Clause_any r _ _ hR (by omega)).mono ?_; rintro e wx ⟨xi, xn, xf, xb, xl, xm, xc, xr, rfl, -, ⟨kx, hkx, hRx⟩, hKx⟩
      replace hF := hF.call hKx
      replace hR := hRx
      replace hO := Own.kp hO hKx hr
      have hsx := hKx.size
      clear hRx hKx
      go_wp2_with ((at_builtin; refine wpList_app rfl _ _ 23 rfl 29 zC 8 64 Try.underlying23 infoCl rfl (by decide) (by decide) w.heap.size encC _ _ rfl (hO.alloc _) ((⟨xi, xn, xf, xb, xr, xl, xm, xc⟩ : ClD)) ⟨_, 0, none⟩ 1 rfl rfl (cells_new _ _ _) (by simp [encC, Value.oneCell']) (by first | omega | (simp only [List.length_append, List.length_cons, List.length_nil]; omega)) (by simp only [World.size_alloc]; omega) ?_; intro v' wx hO1 hg1 hb1 hf1; (have hsz9 := hb1.size; simp only [World.size_alloc] at hsz9; replace hO := hO1; replace hR := (hR.alloc _).below hb1 hr; replace hF := (hF.other _).belowB hb1 (Nat.le_refl _) (by simp); clear hO1 hg1 hb1 hf1)))
      have hne2 := Lib.hid (own_ne hO (by simp))
      go_roundw
      case rel => exact ⟨m', kx, _, by go_num, by simp; omega, by omega, hO, hne2.out, hR, hF, by omega⟩
      case measure => simp [intOf]; omega
    · obtain rfl : m = 0 := by omega
      go_wp2_with fail
      refine (pick_any r _ _ _ hR (by omega) (by omega) (by omega)).mono ?_; rintro e wx ⟨vx, rfl, ux, lx, hRx, hKx⟩
      replace hF := hF.call hKx
      replace hR := hRx
      (try replace hO := Own.kp hO hKx hr)
      have hsx := hKx.size
      clear hRx hKx
      by_cases hz : vx = 0
      · subst hz
        go_wp2_with ((at_builtin; refine wpList_app rfl _ _ 23 rfl 29 zC 8 64 Try.underlying23 infoCl rfl (by decide) (by decide) w.heap.size encC _ _ rfl (hO.alloc _) ((⟨1, 0, 0, 0, false, -1, 0, 0⟩ : ClD)) ⟨_, 0, none⟩ 1 rfl rfl (cells_new _ _ _) (by simp [encC, Value.oneCell']) (by first | omega | (simp only [List.length_append, List.length_cons, List.length_nil]; omega)) (by simp only [World.size_alloc]; omega) ?_; intro v' wx hO1 hg1 hb1 hf1; (have hsz9 := hb1.size; simp only [World.size_alloc] at hsz9; replace hO := hO1; replace hR := (hR.alloc _).below hb1 hr; replace hF := (hF.other _).belowB hb1 (Nat.le_refl _) (by simp); clear hO1 hg1 hb1 hf1)))
        have hne2 := Lib.hid (own_ne hO (by simp))
        go_ret
        exact ⟨_, _, rfl, hO, by simp; omega, hne2.out, ⟨_, by omega, hR⟩, hF.kp⟩
      · have dz : (vx == 0) = false := by simp [hz]
        clear hz
        go_wp2
        go_ret
        exact ⟨_, P, rfl, hO, by omega, hne.out, ⟨_, by omega, hR⟩, hF.kp⟩
set_option maxHeartbeats 4000000 in
theorem drawPolicyOk_any (v0 : Value) (w : World) (h : Given w v0) :
    Calls Try.prog 4 #[v0] w fun e w' => ∃ (g n c : Nat) (P : List ClD), e = .returned (.slice (some ⟨g, 0, none⟩) n c) ∧ Own 29 w' w.heap.size (.slice (some ⟨g, 0, none⟩) n c) 8 encC P ∧ Hid (P.length = n) ∧ n ≤ 10 ∧ n ≤ c ∧ Below w.heap.size w w' := by
  go_enter Try.func4, Try.ntmps4
  go_wp2_with fail
  refine (open_any v0 _ h).mono ?_; rintro e w1 ⟨rfl, hR, hbb⟩
  have hr := hR.lt
  have hs1 := hbb.size
  obtain ⟨r, hrr⟩ : ∃ r, Hid (w.heap.size = r) := ⟨_, rfl⟩
  rw [hrr.out] at hR hr hbb hs1 ⊢
  clear h
  go_wp2_with fail
  refine (l91Policy_any _ 0 _ hR (by omega)).mono ?_; rintro e w2 ⟨v, P, rfl, hO, hP, hne, ⟨k2, hk2, hR2⟩, hK2⟩
  have hs2 := hK2.size
  have hF := (Fr.start r w1).call hK2
  replace hR := hR2
  have hfin : Hid (∀ w3, Below r w1 w3 → Below r w w3) := fun w3 h => hbb.trans h
  have hne' := Lib.hid hne
  clear hR2 hK2 hne hbb
  go_wp2_with fail
  refine (pick_any r _ _ _ hR (by omega) (by omega) (by omega)).mono ?_; rintro e wx ⟨vx, rfl, ux, lx, hRx, hKx⟩
  replace hF := hF.call hKx
  replace hR := hRx
  (try replace hO := Own.kp hO hKx hr)
  have hsx := hKx.size
  clear hRx hKx
  have hfw : Hid (∀ (w3 : World) (v : Value) (P : List ClD), Own 29 w3 w1.heap.size v 8 encC P → v ≠ .slice none 0 0 → P.length ≤ 10 → Fr r w1 w3 [] → ∃ (g n c : Nat) (P : List ClD), Ending.returned v = .returned (.slice (some ⟨g, 0, none⟩) n c) ∧ Own 29 w3 r (.slice (some ⟨g, 0, none⟩) n c) 8 encC P ∧ Hid (P.length = n) ∧ n ≤ 10 ∧ n ≤ c ∧ Below r w w3) := by
    intro w3 v P hO hne hP hF
    rcases own_two hO with ⟨e, -⟩ | ⟨g, c, n, rfl, hnc, hn⟩
    · exact absurd e hne
    · refine ⟨g, n, c, P, rfl, hO.base (by omega), hn, by have := hn.out; omega, hnc, ?_⟩
      exact hfin.out w3 (hF.kp.below (Nat.le_refl _) (by omega))
  by_cases hz : vx = 0
  · subst hz
    go_wp2
    go_loopw [4] (fun s4 wr => ∃ (k' : Nat) (P : List ClD), P.length ≤ 7 ∧ k' ≤ k2 + 10 + P.length ∧ Own 29 wr w1.heap.size s4 8 encC P ∧ Hid (s4 ≠ .slice none 0 0) ∧ Rd wr r k' ∧ Fr r w1 wr [] ∧ w1.heap.size ≤ wr.heap.size) (fun s4 _ => 10 - slLn s4)
    case atStart => exact ⟨k2 + 1, P, by omega, by omega, hO, hne', hR, hF, by omega⟩
    case round =>
      clear hO hR hF hne' hP hsx
      obtain ⟨k', P, hP7, hk', hO, hne, hR, hF, hsz⟩ := hrel
      obtain ⟨ao, cp, hsl⟩ := hO.sl
      subst hsl
      obtain ⟨n, hn⟩ : ∃ n, Hid (P.length = n) := ⟨_, rfl⟩
      rw [hn.out] at hO hP7 hk' hne ⊢
      go_wp2_with fail
      refine (pick_any r _ _ _ hR (by omega) (by omega) (by omega)).mono ?_; rintro e wx ⟨vx, rfl, ux, lx, hRx, hKx⟩
      replace hF := hF.call hKx
      replace hR := hRx
      (try replace hO := Own.kp hO hKx hr)
      have hsx := hKx.size
      clear hRx hKx
      by_cases hlt : (n : Int) < 5 + vx
      · have hPl : P.length ≤ 7 := by rw [hn.out]; exact hP7
        have hn6 : n ≤ 5 := by omega
        go_wp2_with ((at_builtin; refine wpList_app rfl _ _ 23 rfl 29 zC 8 64 Try.underlying23 infoCl rfl (by decide) (by decide) w1.heap.size encC _ _ rfl (hO.alloc _) ((⟨1, 0, 0, 0, false, 2, 0, 0⟩ : ClD)) ⟨_, 0, none⟩ 1 rfl rfl (cells_new _ _ _) (by simp [encC, Value.oneCell']) (by first | omega | (simp only [List.length_append, List.length_cons, List.length_nil]; omega)) (by simp only [World.size_alloc]; omega) ?_; intro v' wx hO1 hg1 hb1 hf1; (have hsz9 := hb1.size; simp only [World.size_alloc] at hsz9; replace hO := hO1; replace hR := (hR.alloc _).below hb1 (by omega); replace hF := (hF.other _).belowB hb1 (Nat.le_refl _) (by simp); clear hO1 hg1 hb1 hf1)))
        have hne2 := Lib.hid (own_ne hO (by simp))
        obtain ⟨ao2, cp2, hsl2⟩ := hO.sl
        subst hsl2
        have hn2 : Hid ((P ++ [(⟨1, 0, 0, 0, false, 2, 0, 0⟩ : ClD)]).length = n + 1) := by show _ = _; rw [List.length_append, hn.out]; rfl
        rw [hn2.out] at hO hne2 ⊢
        go_roundw
        case rel => exact ⟨k' + 1, _, by rw [hn2.out]; omega, by rw [hn2.out]; omega, hO, hne2, hR, hF, by omega⟩
        case measure => simp [slLn]; omega
      · go_wp2
        go_ret
        rw [hrr.out]
        exact hfw.out _ _ _ hO hne.out (by rw [hn.out]; omega) hF
  · have dz : (vx == 0) = false := by simp [hz]
    clear hz
    go_wp2
    go_ret
    rw [hrr.out]
    exact hfw.out _ _ _ hO hne'.out (by omega) hF
end Go.Proofs.Ytgegmampnpgcaaa
