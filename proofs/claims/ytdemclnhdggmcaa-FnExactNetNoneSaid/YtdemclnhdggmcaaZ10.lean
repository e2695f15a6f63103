/- Exact laws: marks written into slices of slices, and held there. FnExactNetNone: the walk. Arguments that are slices of slices of numbers, as they are opened. -/
import Derived.Test.YtdemclnhdggmcaaZ9
import Derived.Deep.Slices
set_option linter.unusedSimpArgs false
set_option linter.unusedVariables false
namespace Go.Proofs.Ytdemclnhdggmcaa
open Go.RowKit Go.Maps Go.WideMaps

theorem OwnI.put {E : TypeId} {w : World} {B : Nat} {u : Value} {P : List Int} (h : Own E w B u 1 encI P) (g i : Nat) (y : Int) : ∃ P' : List Int, P'.length = P.length ∧ Own E (w.setCell ⟨g, i, none⟩ (.int .i64 y)) B u 1 encI P' := by
  by_cases hg : u.ownBlock = some g
  · rcases h.form with ⟨rfl, h0⟩ | ⟨g', cap, rfl⟩
    · simp [Value.ownBlock] at hg
    · simp [Value.ownBlock] at hg
      subst hg
      exact ⟨_, by simp, OwnI.set h i y⟩
  · exact ⟨P, rfl, Own.far h (grown_setC _ _ _) (fun g' h1 e => by injection e with e; dsimp only at e; subst e; exact hg h1)⟩
theorem OwnI.put0 {E : TypeId} {w : World} {B : Nat} {u : Value} (h : Own E w B u 1 encI []) (g i : Nat) (y : Int) : Own E (w.setCell ⟨g, i, none⟩ (.int .i64 y)) B u 1 encI [] := by
  obtain ⟨P', h1, h2⟩ := OwnI.put h g i y
  rwa [List.length_eq_zero_iff.1 h1] at h2
/-- Rows of numbers that may be written. -/
def RL (w : World) (vs : List Value) : Prop := ∀ (i : Nat) (u : Value), vs[i]? = some u → ∃ P : List Int, P.length ≤ 1048576 ∧ Own 3 w 0 u 1 encI P
theorem RL.set {w : World} {vs : List Value} (h : RL w vs) (g i : Nat) (y : Int) : RL (w.setCell ⟨g, i, none⟩ (.int .i64 y)) vs := fun j u hu => by
  obtain ⟨P, h1, h2⟩ := h j u hu
  obtain ⟨P', e, h3⟩ := OwnI.put h2 g i y
  exact ⟨P', by omega, h3⟩
theorem GB.rows {w : World} {B U : Nat} {v : Value} {vs : List Value} {M : List (List Int)} (h : GB shF 40 w B U v vs M) (i : Nat) (u : Value) (hu : vs[i]? = some u) :
    ∃ P, M[i]? = some P ∧ Own 3 w 0 u 1 encI P ∧ Apart u v ∧ ∀ g, u.ownBlock = some g → B ≤ g ∧ g < U := by
  obtain ⟨P, hP⟩ := get_lt (L := M) (k := i) (by rw [← h.rel.1]; exact (List.getElem?_eq_some_iff.1 hu).1)
  obtain ⟨d, hd, hr, hs⟩ := h.rel.2 i P hP
  have e : d = u := by rw [hu] at hd; injection hd with hd; exact hd.symm
  subst e
  have := hs d (List.mem_singleton.2 rfl)
  exact ⟨P, hP, hr, this.1, this.2⟩
set_option maxHeartbeats 1000000 in
theorem markIntSS_any (v : Value) (vs : List Value) (M : List (List Int)) (B U : Nat) (w : World) (h : GB shF 40 w B U v vs M) (hl : M.length ≤ 1048576) (hr : ∀ P ∈ M, P.length ≤ 1048576) (Q : World → Prop) (hQ0 : Q w) (hQ : ∀ w' g i y, Q w' → B ≤ g → g < U → Q (w'.setCell ⟨g, i, none⟩ (.int .i64 y))) :
    Calls Try.prog 11 #[v, .int .i64 1] w fun e w' => ∃ k : Int, e = .returned (.int .i64 k) ∧ 0 ≤ k ∧ Q w' := by
  have hO : Own 40 w B v 1 encV vs := h.own
  obtain ⟨ao, cap, rfl⟩ := hO.sl
  have hf := Lib.hid hO.form
  have hn : vs.length = M.length := h.rel.1
  have HS := Lib.hid (fun (i : Nat) (u : Value) (hu : vs[i]? = some u) => (GB.rows h i u hu).elim fun P q => q.2.2)
  have hR : RL w vs := fun i u hu => by
    obtain ⟨P, h1, h2, -⟩ := GB.rows h i u hu
    exact ⟨P, hr P (List.mem_of_getElem? h1), h2⟩
  obtain ⟨n, hvn⟩ : ∃ n, Hid (vs.length = n) := ⟨_, rfl⟩
  have HQ := Lib.hid hQ
  have hn1 : n ≤ 1048576 := by have := hvn.out; omega
  clear hQ h hr hl hn
  rw [hvn.out] at hf hO HS ⊢
  go_enter Try.func11, Try.ntmps11
  go_wp2
  go_loopw [5, 1] (fun i s wr => ∃ (j : Nat) (l : Int), j ≤ n ∧ i = .int .i64 j ∧ s = .int .i64 l ∧ 1 ≤ l ∧ l ≤ 1 + (j : Int) * 1048576 ∧ Own 40 wr B (.slice ao n cap) 1 encV vs ∧ Hid (RL wr vs ∧ Q wr)) (fun i _ _ => n - (intOf i).toNat)
  case atStart => exact ⟨0, 1, Nat.zero_le _, rfl, rfl, by omega, by omega, hO, ⟨hR, hQ0⟩⟩
  case round =>
    clear hO hR hQ0
    obtain ⟨j, l, hj, rfl, rfl, l1, l2, hO, hq⟩ := hrel
    by_cases hlt : j < n
    · rcases hf.out with ⟨e, e0⟩ | ⟨g, cap', e⟩
      · omega
      · injection e with e1 e2 e3
        subst e1; subst e3
        obtain ⟨u, hu⟩ := get_of hvn.out hlt
        obtain ⟨P, hP, hOu⟩ := hq.out.1 j u hu
        have hS := HS.out j u hu
        obtain ⟨a1, c1, rfl⟩ := hOu.sl
        have cy := OwnV.cell hO hu
        have hC := Lib.hid (markIntS_any _ P l 0 wr hOu (fun w' => Own 40 w' B (.slice (some ⟨g, 0, none⟩) n cap) 1 encV vs ∧ RL w' vs ∧ Q w') ⟨hO, hq.out.1, hq.out.2⟩
          (fun w' g' i y q _ hg => ⟨Own.far q.1 (grown_setC _ _ _) (fun g2 h1 e => by injection e with e; dsimp only at e; subst e; exact hS.1 _ hg h1), q.2.1.set g' i y, HQ.out _ _ _ _ q.2.2 (hS.2 _ hg).1 (hS.2 _ hg).2⟩) (by omega) (by omega))
        clear hO hq hOu hu hS
        go_wp2_with fail
        refine hC.out.mono ?_; rintro e w2 ⟨rfl, ⟨hO, hR, hq⟩, -⟩
        have hq2 : Hid (RL w2 vs ∧ Q w2) := ⟨hR, hq⟩
        clear hR hq hC cy
        go_wp2
        go_roundw
        case rel => exact ⟨j + 1, _, by omega, by go_num, rfl, by omega, by omega, hO, hq2⟩
        case measure => simp [intOf]; omega
    · go_wp2
      go_ret
      exact ⟨l, rfl, by omega, hq.out.2⟩
def oneR (home : Int) (i : Nat) : List Int := if (i : Int) + 1 = home then [1] else []
def oneL (home : Int) (n : Nat) : List (List Int) := (List.range n).map (oneR home)
theorem oneL_len (home : Int) (n : Nat) : (oneL home n).length = n := by simp [oneL]
theorem oneL_at {home : Int} {n k : Nat} (h : k < n) : (oneL home n)[k]? = some (oneR home k) := by
  unfold oneL; rw [List.getElem?_map, List.getElem?_range h]; rfl
def oneW (M : List (List Int)) (home : Int) : List (List Int) := if RelsP M ∧ Bts home 1 M.length then oneL home M.length else []
def mkW (M : List (List Int)) (home : Int) : Int := if RelsP M ∧ Bts home 1 M.length then 2 else 1
theorem mkW_pos (M : List (List Int)) (home : Int) : 1 ≤ mkW M home := by unfold mkW; split <;> omega
/-- The mark that comes next. -/
def lv (kh j : Nat) : Int := if kh < j then 2 else 1
theorem lv_at (kh : Nat) : lv kh kh = 1 := by unfold lv; rw [if_neg (by omega)]
theorem lv_next (kh : Nat) : lv kh (kh + 1) = 2 := by unfold lv; rw [if_pos (by omega)]
theorem lv_same {kh j : Nat} (h : j ≠ kh) : lv kh (j + 1) = lv kh j := by
  unfold lv
  by_cases h1 : kh < j
  · rw [if_pos h1, if_pos (by omega)]
  · rw [if_neg h1, if_neg (by omega)]
theorem lv_pos (kh j : Nat) : 1 ≤ lv kh j := by unfold lv; split <;> omega
theorem lv_le (kh j : Nat) : lv kh j ≤ 2 := by unfold lv; split <;> omega
/-- What is read while the marks are written. -/
def curR (home : Int) (kh j i : Nat) : List Int := if kh < j then oneR home i else noneR home i
def RX (w : World) (vs : List Value) (home : Int) (kh j : Nat) : Prop := ∀ (i : Nat) (u : Value), vs[i]? = some u → Own 3 w 0 u 1 encI (curR home kh j i)
set_option maxHeartbeats 1000000 in
theorem markNone_any (v : Value) (vs : List Value) (M : List (List Int)) (home : Int) (B U : Nat) (w : World) (h : GB shF 40 w B U v vs (noneW M home)) (Q : World → Prop) (hQ0 : Q w) (hQ : ∀ w' g i y, Q w' → B ≤ g → g < U → Q (w'.setCell ⟨g, i, none⟩ (.int .i64 y))) :
    Calls Try.prog 11 #[v, .int .i64 1] w fun e w' => e = .returned (.int .i64 (mkW M home)) ∧ Q w' ∧ GLs shI w' v (oneW M home) := by
  by_cases hc : RelsP M ∧ Bts home 1 M.length
  · have e1 : noneW M home = noneL home M.length := noneW_yes hc.1 hc.2
    have e2 : oneW M home = oneL home M.length := if_pos hc
    have e3 : mkW M home = 2 := if_pos hc
    have hB := hc.2
    have hM5 := hc.1.2.2
    unfold Bts at hB
    rw [e1] at h
    rw [e2, e3]
    obtain ⟨kh, rfl⟩ : ∃ kh : Nat, home = (kh : Int) + 1 := ⟨(home - 1).toNat, by omega⟩
    obtain ⟨n, hMn⟩ : ∃ n, M.length = n := ⟨_, rfl⟩
    rw [hMn] at h hB hM5 ⊢
    have hkn : kh < n := by omega
    have hO : Own 40 w B v 1 encV vs := h.own
    have hvn : vs.length = n := h.rel.1.trans (noneL_len _ _)
    obtain ⟨ao, cap, rfl⟩ := hO.sl
    have hf := Lib.hid hO.form
    have HS := Lib.hid (fun (i : Nat) (u : Value) (hu : vs[i]? = some u) => (GB.rows h i u hu).elim fun P q => q.2.2)
    have hR : RX w vs ((kh : Int) + 1) kh 0 := fun i u hu => by
      obtain ⟨P, h1, h2, -⟩ := GB.rows h i u hu
      rw [noneL_at (by have := (List.getElem?_eq_some_iff.1 hu).1; omega)] at h1
      injection h1 with h1
      subst h1
      exact h2
    have HV := Lib.hid hvn
    have HQ := Lib.hid hQ
    clear hQ h e1 e2 e3 hc hB hMn
    rw [hvn] at hf hO HS ⊢
    clear hvn
    go_enter Try.func11, Try.ntmps11
    go_wp2
    go_loopw [5, 1] (fun i s wr => ∃ j : Nat, j ≤ n ∧ i = .int .i64 j ∧ s = .int .i64 (lv kh j) ∧ Own 40 wr B (.slice ao n cap) 1 encV vs ∧ Hid (RX wr vs ((kh : Int) + 1) kh j ∧ Q wr)) (fun i _ _ => n - (intOf i).toNat)
    case atStart => exact ⟨0, Nat.zero_le _, rfl, rfl, hO, ⟨hR, hQ0⟩⟩
    case round =>
      clear hO hR hQ0
      obtain ⟨j, hj, rfl, rfl, hO, hq⟩ := hrel
      by_cases hlt : j < n
      · rcases hf.out with ⟨e, e0⟩ | ⟨g, cap', e⟩
        · omega
        · injection e with e1 e2 e3
          subst e1; subst e3
          obtain ⟨u, hu⟩ := get_of HV.out hlt
          have hOu := hq.out.1 j u hu
          have hS := HS.out j u hu
          obtain ⟨a1, c1, rfl⟩ := hOu.sl
          have cy := OwnV.cell hO hu
          by_cases hjk : j = kh
          · subst hjk
            have ec : curR ((j : Int) + 1) j j j = [(j : Int) + 1] := by unfold curR; rw [if_neg (by omega)]; exact if_pos rfl
            rw [ec] at hOu cy hS hu
            have hC := markIntS_any _ [(j : Int) + 1] 1 0 wr hOu (fun w' => Own 40 w' B (.slice (some ⟨g, 0, none⟩) n cap) 1 encV vs ∧ (∀ (i : Nat) (u : Value), i ≠ j → vs[i]? = some u → Own 3 w' 0 u 1 encI []) ∧ Q w')
              ⟨hO, fun i u hi hu => (by have := hq.out.1 i u hu; unfold curR noneR at this; rwa [if_neg (by omega), if_neg (by omega)] at this), hq.out.2⟩
              (fun w' g' i y q _ hg => ⟨Own.far q.1 (grown_setC _ _ _) (fun g2 h1 e => by injection e with e; dsimp only at e; subst e; exact hS.1 _ hg h1), fun i2 u2 hi hu2 => OwnI.put0 (q.2.1 i2 u2 hi hu2) g' i y, HQ.out _ _ _ _ q.2.2 (hS.2 _ hg).1 (hS.2 _ hg).2⟩) (by omega) (by simp)
            have em : marks 1 [(j : Int) + 1].length = [1] := rfl
            rw [em] at hC
            have el : lv j j = 1 := lv_at j
            have el2 : (1 : Int) + ([(j : Int) + 1].length : Int) = lv j (j + 1) := by rw [lv_next]; rfl
            rw [el2] at hC
            have HC := Lib.hid hC
            have HU := Lib.hid hu
            clear hO hq hOu hu hS ec hC em el2
            rw [el]
            go_wp2_with fail
            refine HC.out.mono ?_; rintro e w2 ⟨rfl, ⟨hO, hR, hq⟩, h1⟩
            have hq2 : Hid (RX w2 vs ((j : Int) + 1) j (j + 1) ∧ Q w2) := ⟨fun i u hu => by
              unfold curR
              rw [if_pos (by omega)]
              unfold oneR
              by_cases hi : i = j
              · subst hi
                rw [if_pos rfl]
                rw [HU.out] at hu
                injection hu with hu
                subst hu
                exact h1
              · rw [if_neg (by omega)]
                exact hR i u hi hu, hq⟩
            clear hR hq HC cy h1 el
            go_wp2
            go_roundw
            case rel => exact ⟨j + 1, by omega, by go_num, rfl, hO, hq2⟩
            case measure => simp [intOf]; omega
          · have ec : curR ((kh : Int) + 1) kh j j = [] := by
              unfold curR oneR noneR
              by_cases h1 : kh < j
              · rw [if_pos h1, if_neg (by omega)]
              · rw [if_neg h1, if_neg (by omega)]
            rw [ec] at hOu cy hS hu
            have hp := lv_pos kh j
            have hp2 := lv_le kh j
            have hC := markIntS_any _ [] (lv kh j) 0 wr hOu (fun w' => Own 40 w' B (.slice (some ⟨g, 0, none⟩) n cap) 1 encV vs ∧ RX w' vs ((kh : Int) + 1) kh j ∧ Q w')
              ⟨hO, hq.out.1, hq.out.2⟩ (fun w' g' i y q h _ => absurd h (Nat.not_lt_zero _)) (by omega) (by simp; omega)
            have el2 : lv kh j + (([] : List Int).length : Int) = lv kh (j + 1) := by rw [lv_same hjk]; simp
            rw [el2] at hC
            have HC := Lib.hid hC
            clear hO hq hOu hu hS ec hC el2
            go_wp2_with fail
            refine HC.out.mono ?_; rintro e w2 ⟨rfl, ⟨hO, hR, hq⟩, -⟩
            have hq2 : Hid (RX w2 vs ((kh : Int) + 1) kh (j + 1) ∧ Q w2) := ⟨fun i u hu => by
              have := hR i u hu
              unfold curR at this ⊢
              by_cases h1 : kh < j
              · rw [if_pos h1] at this; rwa [if_pos (by omega)]
              · rw [if_neg h1] at this; rwa [if_neg (by omega)], hq⟩
            clear hR hq HC cy
            go_wp2
            go_roundw
            case rel => exact ⟨j + 1, by omega, by go_num, rfl, hO, hq2⟩
            case measure => simp [intOf]; omega
      · have hkn2 : j = n := by omega
        subst hkn2
        have el : lv kh j = 2 := by unfold lv; rw [if_pos hkn]
        have hG : Hid (GLs shI wr (.slice ao j cap) (oneL ((kh : Int) + 1) j)) := ⟨vs, hO.rows (fun _ => rfl), HV.out.trans (oneL_len _ _).symm, fun i s hs => by
          have hi : i < j := by have := (List.getElem?_eq_some_iff.1 hs).1; rwa [oneL_len] at this
          rw [oneL_at hi] at hs
          injection hs with hs
          subst hs
          obtain ⟨u, hu⟩ := get_of HV.out hi
          have := hq.out.1 i u hu
          unfold curR at this
          rw [if_pos hkn] at this
          exact ⟨u, hu, this.rows (fun _ => rfl)⟩⟩
        rw [el]
        go_wp2
        go_ret
        exact ⟨rfl, hq.out.2, hG.out⟩
  · have e1 : noneW M home = [] := noneW_no hc
    have e2 : oneW M home = [] := if_neg hc
    have e3 : mkW M home = 1 := if_neg hc
    rw [e1] at h
    rw [e2, e3]
    have hG := Lib.hid h.gls.wide
    obtain ⟨ao, n, cap, rfl, hn, -, -⟩ := GLs.sl h.gls
    have hn0 : n = 0 := hn.out.symm
    subst hn0
    have hq := Lib.hid hQ0
    clear h hQ0 hQ e1 e2 e3 hn hc
    go_enter Try.func11, Try.ntmps11
    go_wp2
    go_loopw [5, 1] (fun i s wr => i = .int .i64 0 ∧ s = .int .i64 1 ∧ wr = w) (fun _ _ _ => 0)
    case atStart => exact ⟨rfl, rfl, rfl⟩
    case round =>
      obtain ⟨rfl, rfl, rfl⟩ := hrel
      go_wp2
      go_ret
      exact ⟨rfl, hq.out, hG.out⟩
set_option maxHeartbeats 1000000 in
theorem heldNone_any (v : Value) (M : List (List Int)) (home : Int) (w : World) (h : GLs shI w v (oneW M home)) :
    Calls Try.prog 12 #[v, .int .i64 1] w fun e w' => e = .returned (.int .i64 (mkW M home)) ∧ Below w.heap.size w w' := by
  by_cases hc : RelsP M ∧ Bts home 1 M.length
  · have e2 : oneW M home = oneL home M.length := if_pos hc
    have e3 : mkW M home = 2 := if_pos hc
    have hB := hc.2
    have hM5 := hc.1.2.2
    unfold Bts at hB
    rw [e2] at h
    rw [e3]
    obtain ⟨kh, rfl⟩ : ∃ kh : Nat, home = (kh : Int) + 1 := ⟨(home - 1).toNat, by omega⟩
    obtain ⟨ao, n, cap, rfl, hn, hnc, hcap⟩ := GLs.sl h
    have hMn : M.length = n := (oneL_len _ _).symm.trans hn.out
    rw [hMn] at h hB hM5
    have hkn : kh < n := by omega
    have HL := Lib.hid h
    have hF := Fb.start w
    clear h e2 e3 hc hB hMn hn
    go_enter Try.func12, Try.ntmps12
    go_wp2
    go_loopw [5, 1] (fun i s wr => ∃ j : Nat, j ≤ n ∧ i = .int .i64 j ∧ s = .int .i64 (lv kh j) ∧ Fb w wr []) (fun i _ _ => n - (intOf i).toNat)
    case atStart => exact ⟨0, Nat.zero_le _, rfl, rfl, hF⟩
    case round =>
      clear hF
      obtain ⟨j, hj, rfl, rfl, hF⟩ := hrel
      by_cases hlt : j < n
      · obtain ⟨b1, p1, rfl⟩ := GLs.adr HL.out (by omega)
        obtain ⟨a1, m1, c1, x0, i1, -, -, -⟩ := GLs.atI HL.out (oneL_at (home := (kh : Int) + 1) hlt)
        have x1 := hF.old x0
        have hp := Rows.below i1 hF.kp
        clear x0 i1
        have hp1 := lv_pos kh (j + 1)
        have d1 : decide (lv kh (j + 1) < 0) = false := decide_eq_false (by omega)
        by_cases hjk : j = kh
        · subst hjk
          have er : oneR ((j : Int) + 1) j = marks 1 1 := if_pos rfl
          rw [er] at hp
          have hC := heldIntS_yes _ 1 1 _ hp (by omega) (by omega)
          have el : lv j j = 1 := lv_at j
          have el2 : (1 : Int) + ((1 : Nat) : Int) = lv j (j + 1) := by rw [lv_next]; rfl
          rw [el2] at hC
          have HC := Lib.hid hC
          clear hp er hC el2 hp1
          rw [el]
          go_wp2_with fail
          refine HC.out.mono ?_; rintro e w2 ⟨rfl, hb2⟩
          replace hF := hF.below hb2
          clear hb2 HC x1 el
          go_wp2
          go_roundw
          case rel => exact ⟨j + 1, by omega, by go_num, rfl, hF⟩
          case measure => simp [intOf]; omega
        · have er : oneR ((kh : Int) + 1) j = marks (lv kh j) 0 := if_neg (by omega)
          rw [er] at hp
          have h1 := lv_pos kh j
          have h2 := lv_le kh j
          have hC := heldIntS_yes _ 0 (lv kh j) _ hp (by omega) (by simp; omega)
          have el2 : lv kh j + ((0 : Nat) : Int) = lv kh (j + 1) := by rw [lv_same hjk]; simp
          rw [el2] at hC
          have HC := Lib.hid hC
          clear hp er hC el2 h1 h2 hp1
          go_wp2_with fail
          refine HC.out.mono ?_; rintro e w2 ⟨rfl, hb2⟩
          replace hF := hF.below hb2
          clear hb2 HC x1
          go_wp2
          go_roundw
          case rel => exact ⟨j + 1, by omega, by go_num, rfl, hF⟩
          case measure => simp [intOf]; omega
      · have hkn2 : j = n := by omega
        subst hkn2
        have el : lv kh j = 2 := by unfold lv; rw [if_pos hkn]
        rw [el]
        go_wp2
        go_ret
        exact ⟨rfl, hF.kp⟩
  · have e2 : oneW M home = [] := if_neg hc
    have e3 : mkW M home = 1 := if_neg hc
    rw [e2] at h
    rw [e3]
    obtain ⟨ao, n, cap, rfl, hn, -, -⟩ := GLs.sl h
    have hn0 : n = 0 := hn.out.symm
    subst hn0
    clear h e2 e3 hn hc
    go_enter Try.func12, Try.ntmps12
    go_wp2
    go_loopw [5, 1] (fun i s wr => i = .int .i64 0 ∧ s = .int .i64 1 ∧ wr = w) (fun _ _ _ => 0)
    case atStart => exact ⟨rfl, rfl, rfl⟩
    case round =>
      obtain ⟨rfl, rfl, rfl⟩ := hrel
      go_wp2
      go_ret
      exact ⟨rfl, Below.refl _ _⟩
end Go.Proofs.Ytdemclnhdggmcaa
set_option linter.unusedSimpArgs false
set_option linter.unusedVariables false
namespace Go.Proofs.Ytdemclnhdggmcaa
open Go.RowKit Go.Maps Go.WideMaps

set_option maxRecDepth 100000 in
set_option maxHeartbeats 2000000 in
theorem FnExactNetNone_walk (v : Value) (home : Int) (M : List (List Int)) (w : World) (hM : GLs shI w v M) :
    Calls Try.prog 3 #[v, .int .i64 home] w fun e w' => e = .returned (.bool true) ∧ Below w.heap.size w w' := by
  have hF := Fb.start w
  have HM0 := Lib.hid hM
  go_enter Try.func3, Try.ntmps3
  go_wp2_with fail
  refine (szIntSS_any v M 1048576 _ hM (by omega) (by omega)).mono ?_; rintro e w1 ⟨r, rfl, hr, hb⟩
  replace hF := hF.below hb
  replace hM := hM.below hb
  clear hb
  by_cases hr0 : r < 0
  · have d : decide (r < 0) = true := decide_eq_true hr0
    go_wp2
    go_ret
    exact ⟨rfl, hF.kp⟩
  obtain ⟨q0, q1, hm, hmr⟩ := hr.resolve_left (by omega)
  have d : decide (r < 0) = false := decide_eq_false hr0
  clear hr hr0 q0 q1
  have HMR := Lib.hid hmr
  clear hmr
  go_wp2_with fail
  refine (toIntSS_any v M _ hM hm HMR.out).mono ?_; rintro e w2 ⟨v1, rfl, hO, hb⟩
  replace hF := hF.below hb
  replace hM := hM.below hb
  have hV1 := hO.gls.wide
  clear hb hO d
  go_wp2_with fail
  refine (sNetNone_any v1 M home _ hV1.mat).mono ?_; rintro e w3 ⟨z0, rfl, hO, hb⟩
  replace hF := hF.below hb
  replace hM := hM.below hb
  obtain ⟨zs, hZ⟩ := hO.gb
  have hs0 := hF.kp.size
  clear hb hO hV1
  go_wp2_with fail
  refine (toIntSS_any v M _ hM hm HMR.out).mono ?_; rintro e w4 ⟨x0, rfl, hO, hb⟩
  replace hF := hF.below hb
  replace hM := hM.below hb
  replace hZ := hZ.below hb
  obtain ⟨xs, hX⟩ := hO.gb
  have HX0 := hX
  have hs3 := hb.size
  clear hb hO
  go_wp2_with fail
  refine (iNetNone_any x0 M home _ hX.gls.wide.mat).mono ?_; rintro e w5 ⟨g0, rfl, hO, hb⟩
  replace hF := hF.below hb
  replace hM := hM.below hb
  replace hZ := hZ.below hb
  replace hX := hX.below hb
  obtain ⟨gs, hG⟩ := hO.gb
  have hs4 := hb.size
  clear hb hO HX0
  go_wp2_with fail
  refine (eqIntSS_same g0 z0 _ _ hG.gls.wide hZ.gls).mono ?_; rintro e w6 ⟨rfl, hb⟩
  replace hF := hF.below hb
  replace hM := hM.below hb
  replace hZ := hZ.below hb
  replace hX := hX.below hb
  replace hG := hG.below hb
  clear hb
  go_wp2_with fail
  refine (toIntSS_any v M _ hM hm HMR.out).mono ?_; rintro e w7 ⟨v7, rfl, hO, hb⟩
  replace hF := hF.below hb
  replace hM := hM.below hb
  replace hZ := hZ.below hb
  replace hX := hX.below hb
  replace hG := hG.below hb
  have hV7 := hO.gls.wide
  clear hb hO
  go_wp2_with fail
  refine (eqIntSS_same x0 v7 M _ hX.gls.wide hV7).mono ?_; rintro e w8 ⟨rfl, hb⟩
  replace hF := hF.below hb
  replace hM := hM.below hb
  replace hZ := hZ.below hb
  replace hX := hX.below hb
  replace hG := hG.below hb
  clear hb hV7
  have hB := hF.kp
  have HC := Lib.hid (markIntSS_any x0 xs M _ _ w8 hX hm HMR.out (fun wx => Below w.heap.size w wx ∧ GB shI 40 wx w2.heap.size w3.heap.size z0 zs (noneW M home) ∧ GB shF 40 wx w4.heap.size w5.heap.size g0 gs (noneW M home)) ⟨hB, hZ, hG⟩
    (fun wx g i y q h1 h2 => ⟨q.1.setCell (show w.heap.size ≤ (⟨g, i, none⟩ : Addr).block by dsimp only; omega) _, q.2.1.set _ _ (Or.inr (by dsimp only; omega)), q.2.2.set _ _ (Or.inl (by dsimp only; omega))⟩))
  clear hM hZ hX hG hF hB
  go_wp2_with fail
  refine HC.out.mono ?_; rintro e w9 ⟨k, rfl, hk, hB, hZ, hG⟩
  clear HC
  have dk : decide (k < 0) = false := decide_eq_false (by omega)
  clear hk
  have hF : Fb w w9 [] := ⟨hB, fun _ h => by cases h⟩
  clear hB
  go_wp2_with fail
  refine (eqIntSS_same g0 z0 _ _ hG.gls.wide hZ.gls).mono ?_; rintro e wa ⟨rfl, hb⟩
  replace hF := hF.below hb
  replace hZ := hZ.below hb
  replace hG := hG.below hb
  clear hb dk
  have hB := hF.kp
  have HC := Lib.hid (markNone_any g0 gs M home _ _ wa hG (fun wx => Below w.heap.size w wx ∧ GB shI 40 wx w2.heap.size w3.heap.size z0 zs (noneW M home)) ⟨hB, hZ⟩
    (fun wx g i y q h1 h2 => ⟨q.1.setCell (show w.heap.size ≤ (⟨g, i, none⟩ : Addr).block by dsimp only; omega) _, q.2.set _ _ (Or.inr (by dsimp only; omega))⟩))
  clear hZ hG hF hB
  go_wp2_with fail
  refine HC.out.mono ?_; rintro e wb ⟨rfl, ⟨hB, hZ⟩, hG⟩
  clear HC
  have hF : Fb w wb [] := ⟨hB, fun _ h => by cases h⟩
  have hM := HM0.out.below hB
  clear hB
  obtain ⟨mk, hmk⟩ : ∃ mk, mkW M home = mk := ⟨_, rfl⟩
  have hp := mkW_pos M home
  have HH := Lib.hid (fun (u : Value) (wx : World) (h : GLs shI wx u (oneW M home)) => heldNone_any u M home wx h)
  rw [hmk] at hp HH ⊢
  have d1 : decide (mk < 0) = false := decide_eq_false (by omega)
  have d2 : (mk != mk) = false := by simp
  clear hp hmk
  go_wp2_with fail
  refine (HH.out g0 _ hG).mono ?_; rintro e wc ⟨rfl, hb⟩
  replace hF := hF.below hb
  replace hM := hM.below hb
  replace hZ := hZ.below hb
  replace hG := hG.below hb
  clear hb
  go_wp2_with fail
  refine (toIntSS_any v M _ hM hm HMR.out).mono ?_; rintro e wd ⟨vd, rfl, hO, hb⟩
  replace hF := hF.below hb
  replace hZ := hZ.below hb
  replace hG := hG.below hb
  have hVd := hO.gls.wide
  clear hb hO hM
  go_wp2_with fail
  refine (iNetNone_any vd M home _ hVd.mat).mono ?_; rintro e we ⟨h0, rfl, hO, hb⟩
  replace hF := hF.below hb
  replace hZ := hZ.below hb
  replace hG := hG.below hb
  have hH := hO.gls.wide
  clear hb hO hVd
  go_wp2_with fail
  refine (eqIntSS_same h0 z0 _ _ hH hZ.gls).mono ?_; rintro e wf ⟨rfl, hb⟩
  replace hF := hF.below hb
  replace hG := hG.below hb
  clear hb hH hZ
  go_wp2_with fail
  refine (HH.out g0 _ hG).mono ?_; rintro e wg ⟨rfl, hb⟩
  replace hF := hF.below hb
  clear hb hG
  go_wp2
  go_ret
  exact ⟨rfl, hF.kp⟩
end Go.Proofs.Ytdemclnhdggmcaa
set_option linter.unusedSimpArgs false
set_option linter.unusedVariables false
namespace Go.Proofs.Ytdemclnhdggmcaa
open Go.RowKit Go.ChangeShapes

theorem add_none {w : World} {a : Addr} {u : Value} (h : w.cell? (a.add 0) = some u) : ∃ b off, a = ⟨b, off, none⟩ ∧ ∀ k, a.add k = ⟨b, off + k, none⟩ := by
  have hs := World.cell?_spot h
  obtain ⟨b, off, s⟩ := a
  simp [Addr.add] at hs
  subst hs
  refine ⟨b, off, rfl, fun k => ?_⟩
  unfold Addr.add
  by_cases hk : k = 0
  · subst hk; simp
  · simp [hk]
theorem trod_ints {H : Type} {enc : TypeId × Value → H} {w : World} {base : Nat} {sp : Nat → Bool} {held : Bool} {fuel : Nat} {v : Value} {x : DataW H × List MemPlace} (h : DataW.trod enc Try.prog w base sp held fuel 40 [v] = some x) :
    ∃ L, Ints w v L := by
  rcases open_ints Try.underlying40 Try.underlying3 (by kernel_rfl) h with ⟨hcs, _⟩ | ⟨a, l, c, zs, hcs, _, hl, hm, hz, _, hcell, hwz⟩
  · injection hcs with e _
    subst e
    exact ⟨[], Rows.nil _ _ _ (by omega) _ _⟩
  · injection hcs with e _
    subst e
    have hle : l ≤ zs.length := by rw [hz]; split <;> omega
    have hlen : (zs.take l).length = l := by rw [List.length_take]; omega
    refine ⟨zs.take l, some a, c, by rw [hlen], by rw [hlen]; exact hl, by unfold maxLen at hm; omega, fun k y hk => ?_⟩
    have hk1 : k < l := by have := (List.getElem?_eq_some_iff.1 hk).1; omega
    have hc := hcell k (by omega)
    have hy : zs.getD k 0 = y := by
      rw [List.getElem?_take, if_pos hk1] at hk
      simp [List.getD, hk]
    rw [hy] at hc
    obtain ⟨b, off, rfl, e2⟩ := add_none (hcell 0 (by omega))
    rw [e2] at hc
    refine ⟨b, off, rfl, fun j u hj => ?_⟩
    have hj0 : j = 0 := by
      have := (List.getElem?_eq_some_iff.1 hj).1
      simp [encI] at this; omega
    subst hj0
    simp [encI] at hj
    subst hj
    simpa using hc
theorem trod_gls {H : Type} {enc : TypeId × Value → H} {w : World} {base : Nat} {sp : Nat → Bool} {held : Bool} {fuel : Nat} {v : Value} {x : DataW H × List MemPlace} (h : DataW.trod enc Try.prog w base sp held fuel 22 [v] = some x) :
    ∃ M, GLs shI w v M := by
  rcases Deep.open_slice1 Try.underlying22 (by kernel_rfl) h with ⟨hcs, _⟩ | ⟨a, l, c, m, n, V, D, Pl, hcs, _, hl, hm, hmm, _, hcell⟩
  · injection hcs with e _
    subst e
    exact ⟨[], GLs.nil _ _ _ (by omega)⟩
  · injection hcs with e _
    subst e
    have hle : l ≤ m := by rw [hmm]; split <;> omega
    obtain ⟨L, hL⟩ := Deep.choose_lt (α := List Int) (n := l) (p := fun i P => Ints w (V i) P) (fun i hi => trod_ints (hcell i (by omega)).2)
    refine ⟨(List.range l).map L, (List.range l).map V, ⟨some a, c, by simp, by simpa using hl, by unfold maxLen at hm; omega, fun k y hk => ?_⟩, by simp, fun k s hk => ?_⟩
    · have hk1 : k < l := by simpa using (List.getElem?_eq_some_iff.1 hk).1
      have hc := (hcell k (by omega)).1
      have hy : V k = y := by simpa [hk1] using hk
      rw [hy] at hc
      obtain ⟨b, off, rfl, e2⟩ := add_none (hcell 0 (by omega)).1
      rw [e2] at hc
      refine ⟨b, off, rfl, fun j u hj => ?_⟩
      have hj0 : j = 0 := by
        have := (List.getElem?_eq_some_iff.1 hj).1
        simp [shI, encV] at this; omega
      subst hj0
      simp [shI, encV] at hj
      subst hj
      have : (Sh.sz shI) = 1 := rfl
      rw [this]
      simpa using hc
    · have hk1 : k < l := by simpa using (List.getElem?_eq_some_iff.1 hk).1
      have hs : L k = s := by simpa [hk1] using hk
      exact ⟨V k, by simp [hk1], by rw [← hs]; exact hL k hk1⟩
end Go.Proofs.Ytdemclnhdggmcaa
