/- FnSealMore: the walk. FnSealOk: the walk. -/
import Derived.Test.YtiocomefkckbfaaDoorZ24
import Derived.Test.YtiocomefkckbfaaDoorZ22
set_option linter.unusedSimpArgs false
set_option linter.unusedVariables false
namespace Go.Proofs.YtiocomefkckbfaaDoor
open Go.RowKit Go.Maps Go.WideMaps

theorem lacks_more {H H' : List HoldD} {L L' : List Sl} {ti g c lk : Int} {P M : List Int} (h : (lacks H L ti g c lk P M == 0) = true) (hH : ∀ x ∈ H, x ∈ H') (hL : ∀ s ∈ L, s ∈ L') : (lacks H' L' ti g c lk P M == 0) = true := by
  obtain ⟨h1, h2, h3⟩ := lacks_ok.1 h
  refine lacks_ok.2 ⟨h1, ?_, fun k hk => hL _ (h3 k hk)⟩
  obtain ⟨x, hx, hx2⟩ := List.any_eq_true.1 h2
  exact List.any_eq_true.2 ⟨x, hH x hx, hx2⟩
theorem mok_nil : MOk [] := fun i hi => by simp at hi
theorem lacks_like {H : List HoldD} {L : List Sl} {ti g c lk lk2 : Int} {P M : List Int} (h : (lacks H L ti g c lk P M == 0) = true) (hl : Bts lk2 0 9) : (lacks H L ti g c lk2 P [] == 0) = true := by
  obtain ⟨⟨⟨h1, h2, h3, h4, h5⟩, h6, h7⟩, h8, h9⟩ := lacks_ok.1 h
  exact lacks_ok.2 ⟨⟨⟨h1, h2, h3, hl, mok_nil⟩, h6, h7⟩, h8, h9⟩
theorem lyF_bd (n : Nat) : 0 ≤ lyF n ∧ lyF n ≤ 255 := by
  unfold lyF
  have s1 := sz_pos ((n : Int) % 9)
  have q2 : 0 ≤ (n : Int) * 37 % 256 := by omega
  have q3 : (n : Int) * 37 % 256 < 256 := by omega
  have z1 : 0 ≤ (n : Int) * 37 % 256 / sz ((n : Int) % 9) := Int.ediv_nonneg q2 (by omega)
  have z2 : (n : Int) * 37 % 256 / sz ((n : Int) % 9) * sz ((n : Int) % 9) ≤ (n : Int) * 37 % 256 := Int.ediv_mul_le _ (by omega)
  have z3 : 0 ≤ (n : Int) * 37 % 256 / sz ((n : Int) % 9) * sz ((n : Int) % 9) := Int.mul_nonneg z1 (by omega)
  omega
/-- A seal ahead of others. -/
theorem Sls.cons {w : World} {v u : Value} {ds : List SlV} {L : List Sl} {x t f n : Int} {p : List Int} (hr : Rows w v 5 encS ((x, t, f, n, u) :: ds)) (hu : Ints w u p) (hl : ds.length = L.length) (hp : ∀ (k : Nat) (s : Sl), L[k]? = some s → ∃ u : Value, ds[k]? = some (s.1, s.2.1, s.2.2.1, s.2.2.2.1, u) ∧ Ints w u s.2.2.2.2) : Sls w v ((x, t, f, n, p) :: L) :=
  ⟨_, hr, by simp [hl], fun k s hk => by
    cases k with
    | zero => simp at hk; subst hk; exact ⟨u, rfl, hu⟩
    | succ k => exact hp k s (by simpa using hk)⟩
theorem sls_one {w : World} {ds : List SlV} {L : List Sl} (hl : ds.length = L.length) (hp : ∀ (k : Nat) (s : Sl), L[k]? = some s → ∃ u : Value, ds[k]? = some (s.1, s.2.1, s.2.2.1, s.2.2.2.1, u) ∧ Ints w u s.2.2.2.2) : ∀ d ∈ ds, ∀ u ∈ encS d, u.oneCell' = true := fun d hd => by
  obtain ⟨k, hk, e⟩ := List.mem_iff_getElem.1 hd
  obtain ⟨s, hs⟩ := get_lt (L := L) (k := k) (by rw [← hl]; exact hk)
  obtain ⟨u, a, b⟩ := hp k s hs
  rw [List.getElem?_eq_getElem hk, e] at a
  injection a with a
  refine one_encS d ?_
  rw [a]
  obtain ⟨ao, c, e2, -⟩ := b.ex
  show u.oneCell' = true
  rw [e2]; rfl
set_option maxRecDepth 100000 in
set_option maxHeartbeats 8000000 in
theorem FnSealMore_walk (a0 a1 : Option Addr) (n0 c0 n1 d1 : Nat) (a : Addr) (w : World) (h0 : Given w (.slice a0 n0 c0)) (h1 : Given w (.slice a1 n1 d1)) (hE : EPath w a) (htab : Tab w) :
    Calls Tryd.prog 10 #[.slice a0 n0 c0, .slice a1 n1 d1] w fun e w' => e = .returned (.bool true) ∧ Below w.heap.size w w' := by
  by_cases hn0 : 1048576 < n0
  · have e0 : decide (1048576 < (n0 : Int)) = true := by simp; omega
    go_enter Tryd.func10, Tryd.ntmps10
    go_wp2
    go_ret
    exact ⟨rfl, Below.refl _ _⟩
  have e0 : decide (1048576 < (n0 : Int)) = false := by simp; omega
  by_cases hn1 : 1048576 < n1
  · have e1 : decide (1048576 < (n1 : Int)) = true := by simp; omega
    go_enter Tryd.func10, Tryd.ntmps10
    go_wp2
    go_ret
    exact ⟨rfl, Below.refl _ _⟩
  have e1 : decide (1048576 < (n1 : Int)) = false := by simp; omega
  have hF := Fb.start w
  go_enter Tryd.func10, Tryd.ntmps10
  go_wp2_with fail
  refine (drawSealOk_any _ _ h0).mono ?_; rintro e w1 ⟨hv, lv, pv, mv, H, L, g, c, lk, ti, P, M, rfl, hH, hS, hp, hm, hP4, hM9, hH5, hL8, hLs, ht0, ht6, hb1⟩
  clear h0
  obtain ⟨o1, c1, rfl, hnc, hcc, -⟩ := hp.ex
  obtain ⟨o2, c2, rfl, -⟩ := hm.ex
  replace hF := (hF.below hb1).alloc [.int .i64 g, .int .i64 c, .slice o1 P.length c1, .int .i64 lk, .slice o2 M.length c2] 35
  have hb2 := (Below.refl w1.heap.size w1).alloc (Nat.le_refl _) (.cells #[.int .i64 g, .int .i64 c, .slice o1 P.length c1, .int .i64 lk, .slice o2 M.length c2] 35)
  replace hp := Rows.below hp hb2
  replace hm := Rows.below hm hb2
  replace hH := hH.below hb2
  replace hS := hS.below hb2
  replace hE := (hE.below hb1).below hb2
  replace htab := tab_below (tab_below htab hb1) hb2
  obtain ⟨n5, hn5⟩ : ∃ n, w1.heap.size = n := ⟨_, rfl⟩
  rw [hn5] at hF
  clear hb1 hb2
  have HLs := Lib.hid hLs
  clear hLs
  have o := hF.own; simp only [World.size_alloc, World.size_drew, World.size_setCell, List.mem_cons, List.not_mem_nil, or_false, forall_eq_or_imp, forall_eq, At, and_true, Nat.zero_add, Nat.reduceAdd, List.set_cons_zero, List.set_cons_succ] at o
  have HP4 := Lib.hid hP4
  have hPl := hP4.1
  clear hP4
  go_wp2_with fail
  go_fit (iSealOk_any hv lv H L g c lk _ _ P M ti a _ hH hS hp hm hE htab (by omega) (by omega) HLs.out); rintro e w2 ⟨rfl, hb2⟩
  replace hF := hF.below hb2
  replace hp := Rows.below hp hb2
  replace hm := Rows.below hm hb2
  replace hE := hE.below hb2
  replace htab := tab_below htab hb2
  replace hH := hH.below hb2
  replace hS := hS.below hb2
  clear o hb2
  have o := hF.own; simp only [World.size_alloc, World.size_drew, World.size_setCell, List.mem_cons, List.not_mem_nil, or_false, forall_eq_or_imp, forall_eq, At, and_true, Nat.zero_add, Nat.reduceAdd, List.set_cons_zero, List.set_cons_succ] at o
  go_wp2_with fail
  go_fit (sSealOk_any hv lv H L g c lk _ _ P M ti _ hH hS hp hm (by omega)); rintro e w3 ⟨rfl, hb3⟩
  replace hF := hF.below hb3
  replace hp := Rows.below hp hb3
  replace hm := Rows.below hm hb3
  replace hE := hE.below hb3
  replace htab := tab_below htab hb3
  replace hH := hH.below hb3
  replace hS := hS.below hb3
  clear o hb3
  have o := hF.own; simp only [World.size_alloc, World.size_drew, World.size_setCell, List.mem_cons, List.not_mem_nil, or_false, forall_eq_or_imp, forall_eq, At, and_true, Nat.zero_add, Nat.reduceAdd, List.set_cons_zero, List.set_cons_succ] at o
  obtain ⟨B, hB⟩ : ∃ B, (lacks H L ti g c lk P M == 0) = B := ⟨_, rfl⟩
  rw [hB]
  cases B with
  | false =>
    go_wp2_with fail
    have cS := sSealOk_any hv lv H L g c lk _ _ P M ti _ hH hS hp hm (by omega)
    rw [hB] at cS
    clear hB
    go_fit cS; rintro e w4 ⟨rfl, hb4⟩
    replace hF := hF.below hb4
    clear hb4 cS
    go_wp2
    go_ret
    exact ⟨rfl, hF.kp⟩
  | true =>
    have HB := Lib.hid hB
    clear hB
    have hly := lyF_bd n1
    obtain ⟨ds, hr, hdl, hdp⟩ := hS.ex
    have HD := Lib.hid hdp
    have HDL := Lib.hid hdl
    have HR := Lib.hid hr
    clear hdl hdp hr
    have m0 : (0 : Int) ≤ (n1 : Int) := by omega
    go_wp2_with fail
    have hb4 := (Below.refl w3.heap.size w3).alloc (Nat.le_refl _) (.cells #[.int .i64 g, .int .i64 c, .slice o1 P.length c1, .int .i64 ((n1 : Int) % 10), .slice none 0 0] 35)
    replace hF := hF.alloc [.int .i64 g, .int .i64 c, .slice o1 P.length c1, .int .i64 ((n1 : Int) % 10), .slice none 0 0] 35
    go_fit (lyRange_any n1 (by omega) _); rintro e w5 ⟨rfl, hb5⟩
    have hb35 := hb4.trans (hb5.mono hb4.size)
    replace hF := hF.below hb5
    have HK5 := Lib.hid hb35
    replace hp := Rows.below hp hb35
    replace hm := Rows.below hm hb35
    replace hE := hE.below hb35
    replace htab := tab_below htab hb35
    replace hH := hH.below hb35
    replace hS := hS.below hb35
    clear o hb4 hb5 hb35
    have o := hF.own; simp only [World.size_alloc, World.size_drew, World.size_setCell, List.mem_cons, List.not_mem_nil, or_false, forall_eq_or_imp, forall_eq, At, and_true, Nat.zero_add, Nat.reduceAdd, List.set_cons_zero, List.set_cons_succ] at o
    obtain ⟨y1, hy1⟩ : ∃ z, lyF n1 = z := ⟨_, rfl⟩
    obtain ⟨y2, hy2⟩ : ∃ z, (n1 : Int) % 9 = z := ⟨_, rfl⟩
    have hy2b : 0 ≤ y2 ∧ y2 ≤ 8 := by omega
    rw [hy1] at hly
    have HY := Lib.hid (show Calls Tryd.prog 29 = Calls Tryd.prog 29 from rfl)
    have hLy := Lib.hid (fun w => (show Calls Tryd.prog 29 #[.int .i64 n1] w fun e w' => e = .returned (.agg #[.int .i64 y1, .int .i64 y2]) ∧ Below w.heap.size w w' from by have := lyRange_any n1 (by omega) w; rwa [hy1, hy2] at this))
    rw [hy1, hy2]
    clear hy1 hy2 HY
    have hOwn : Own 28 ((w5.alloc (.cells #[.int .i64 1] 3)).alloc (.cells #[.int .i64 1, .int .i64 2, .int .i64 y1, .int .i64 y2, .slice (some ⟨w5.heap.size, 0, none⟩) 1 1] 28)) (w5.heap.size + 1) (.slice (some ⟨w5.heap.size + 1, 0, none⟩) 1 1) 5 encS [((1, 2, y1, y2, .slice (some ⟨w5.heap.size, 0, none⟩) 1 1) : SlV)] := by
      have := Own.lit 28 (w5.alloc (.cells #[.int .i64 1] 3)) (w5.heap.size + 1) 5 encS [((1, 2, y1, y2, .slice (some ⟨w5.heap.size, 0, none⟩) 1 1) : SlV)] (fun _ => rfl) (by simp) (by simp)
      simpa [encS] using this
    have hpath : Ints (w5.alloc (.cells #[.int .i64 1] 3)) (.slice (some ⟨w5.heap.size, 0, none⟩) 1 1) [1] := by
      have := (Own.lit 3 w5 0 1 encI [1] (fun _ => rfl) (Nat.zero_le _) (by simp)).rows (fun _ => rfl)
      simpa [encI] using this
    have HO := Lib.hid hOwn
    have HPA := Lib.hid hpath
    have HON := Lib.hid (sls_one HDL.out HD.out)
    have hKw := ((Below.refl w5.heap.size w5).alloc (Nat.le_refl _) (.cells #[.int .i64 1] 3)).alloc (by simp) (.cells #[.int .i64 1, .int .i64 2, .int .i64 y1, .int .i64 y2, .slice (some ⟨w5.heap.size, 0, none⟩) 1 1] 28)
    have HKW := Lib.hid hKw
    clear hOwn hpath hKw
    go_wp2_with (at_builtin; refine wpList_appsZ rfl _ _ 23 rfl 28 (.agg #[.int .i64 0, .int .i64 0, .int .i64 0, .int .i64 0, .slice none 0 0]) 5 56 Tryd.underlying23 infoSl rfl (by decide) (by decide) (w5.heap.size + 1) encS (fun _ => rfl) _ _ rfl HO.out _ ds HON.out rfl ((HR.out.below HK5.out).below HKW.out) (by have := HDL.out; simp only [List.length_cons, List.length_nil]; omega) (by simp) ?_; intro v6 w6 hO6 hg6 hb6 hf6)
    have hQ6 : Below w5.heap.size w5 w6 := HKW.out.trans (hb6.mono (by omega))
    have hb6p : Below (w5.alloc (.cells #[.int .i64 1] 3)).heap.size (w5.alloc (.cells #[.int .i64 1] 3)) w6 := by
      simp only [World.size_alloc]
      exact Below.trans ((Below.refl _ _).alloc (by simp) _) hb6
    have hM6 : Sls w6 v6 ((1, 2, y1, y2, [1]) :: L) := Sls.cons (hO6.rows (fun _ => rfl)) (Rows.below HPA.out hb6p) HDL.out (fun k s hk => by obtain ⟨u, e, i⟩ := HD.out k s hk; exact ⟨u, e, Rows.below (Rows.below i HK5.out) hQ6⟩)
    replace hF := hF.below hQ6
    replace hp := Rows.below hp hQ6
    replace hm := Rows.below hm hQ6
    replace hE := hE.below hQ6
    replace htab := tab_below htab hQ6
    replace hH := hH.below hQ6
    replace hS := hS.below hQ6
    clear hO6 hg6 hb6 hf6 hb6p hQ6 o
    go_fit (hLy.out _); rintro e w7 ⟨rfl, hb7⟩
    replace hM6 := hM6.below hb7
    replace hF := hF.below hb7
    replace hp := Rows.below hp hb7
    replace hm := Rows.below hm hb7
    replace hE := hE.below hb7
    replace htab := tab_below htab hb7
    replace hH := hH.below hb7
    replace hS := hS.below hb7
    clear hb7
    have o := hF.own; simp only [World.size_alloc, World.size_drew, World.size_setCell, List.mem_cons, List.not_mem_nil, or_false, forall_eq_or_imp, forall_eq, At, and_true, Nat.zero_add, Nat.reduceAdd, List.set_cons_zero, List.set_cons_succ] at o
    have hOw2 : Own 41 (w7.alloc (.cells #[.int .i64 3, .int .i64 y1, .int .i64 y2] 41)) w7.heap.size (.slice (some ⟨w7.heap.size, 0, none⟩) 1 1) 3 HoldD.enc [⟨3, y1, y2⟩] := by
      have := Own.lit 41 w7 w7.heap.size 3 HoldD.enc [⟨3, y1, y2⟩] (fun _ => rfl) (Nat.le_refl _) (by simp)
      simpa [HoldD.enc] using this
    have HO2 := Lib.hid hOw2
    have HHr := Lib.hid hH
    have hKw := (Below.refl w7.heap.size w7).alloc (Nat.le_refl _) (.cells #[.int .i64 3, .int .i64 y1, .int .i64 y2] 41)
    have HKW2 := Lib.hid hKw
    clear hOw2 hKw
    go_wp2_with (at_builtin; refine wpList_appsZ rfl _ _ 42 rfl 41 (.agg #[.int .i64 0, .int .i64 0, .int .i64 0]) 3 24 Tryd.underlying42 infoHold rfl (by decide) (by decide) w7.heap.size HoldD.enc (fun _ => rfl) _ _ rfl HO2.out _ H (fun x _ u hu => by simp [HoldD.enc] at hu; rcases hu with rfl | rfl | rfl <;> rfl) rfl (HHr.out.below HKW2.out) (by simp only [List.length_cons, List.length_nil]; omega) (by simp) ?_; intro v8 w8 hO8 hg8 hb8 hf8; have hQ8 : Below w7.heap.size w7 w8 := HKW2.out.trans hb8; have hH8 := hO8.rows (fun _ => rfl); clear hO8 hg8 hb8 hf8; replace hF := hF.below hQ8; clear o; have o := hF.own; simp only [World.size_alloc, World.size_drew, World.size_setCell, List.mem_cons, List.not_mem_nil, or_false, forall_eq_or_imp, forall_eq, At, and_true, Nat.zero_add, Nat.reduceAdd, List.set_cons_zero, List.set_cons_succ] at o)
    replace hp := Rows.below hp hQ8
    replace hm := Rows.below hm hQ8
    replace hE := hE.below hQ8
    replace htab := tab_below htab hQ8
    replace hH := hH.below hQ8
    replace hS := hS.below hQ8
    replace hM6 := hM6.below hQ8
    clear hQ8
    have HSm : ∀ s ∈ (((1, 2, y1, y2, [1]) : Sl) :: L), SmS s := fun s hs => by
      rcases List.mem_cons.1 hs with rfl | hs
      · exact ⟨⟨by show (-1000000 : Int) ≤ 1; omega, by show (1 : Int) ≤ 1000000; omega⟩, ⟨by show (-1000000 : Int) ≤ 2; omega, by show (2 : Int) ≤ 1000000; omega⟩, ⟨by show (-1000000 : Int) ≤ y1; omega, by show y1 ≤ 1000000; omega⟩, ⟨by show (-1000000 : Int) ≤ y2; omega, by show y2 ≤ 1000000; omega⟩, by simp, fun x hx => by simp at hx; omega⟩
      · exact HLs.out s hs
    have cA := iSealOk_any v8 v6 ([⟨3, y1, y2⟩] ++ H) ((1, 2, y1, y2, [1]) :: L) g c lk _ _ P M ti a _ hH8 hM6 hp hm hE htab (by omega) (by simp only [List.length_cons]; omega) HSm
    rw [lacks_more HB.out (fun x hx => List.mem_append_right _ hx) (fun s hs => List.mem_cons_of_mem _ hs)] at cA
    have CA := Lib.hid cA
    clear cA HSm
    go_fit CA.out; rintro e w9 ⟨rfl, hb9⟩
    replace hF := hF.below hb9
    replace hp := Rows.below hp hb9
    replace hm := Rows.below hm hb9
    replace hE := hE.below hb9
    replace htab := tab_below htab hb9
    replace hH := hH.below hb9
    replace hS := hS.below hb9
    clear o hb9
    have o := hF.own; simp only [World.size_alloc, World.size_drew, World.size_setCell, List.mem_cons, List.not_mem_nil, or_false, forall_eq_or_imp, forall_eq, At, and_true, Nat.zero_add, Nat.reduceAdd, List.set_cons_zero, List.set_cons_succ] at o
    have cB := iSealOk_any hv lv H L g c ((n1 : Int) % 10) _ (.slice none 0 0) P [] ti a _ hH hS hp (ints_nil w9 none 0 (by omega)) hE htab (by omega) (by omega) HLs.out
    rw [lacks_like HB.out (by unfold Bts; omega)] at cB
    have CB := Lib.hid cB
    clear cB hM6 hH8
    go_wp2_with fail
    go_fit CB.out; rintro e w10 ⟨rfl, hb10⟩
    replace hF := hF.below hb10
    clear hb10
    go_wp2
    go_ret
    exact ⟨rfl, hF.kp⟩
end Go.Proofs.YtiocomefkckbfaaDoor
set_option linter.unusedSimpArgs false
set_option linter.unusedVariables false
namespace Go.Proofs.YtiocomefkckbfaaDoor
open Go.RowKit Go.Maps Go.WideMaps

theorem holds_same {x g c : Int} {H : List HoldD} (h : ROk g c) : (H ++ ([⟨x, g, c⟩] : List HoldD)).any (holdsP x g c) = true := by
  rw [List.any_append]
  have : holdsP x g c (⟨x, g, c⟩ : HoldD) = true := decide_eq_true ⟨rfl, h, h, Int.le_refl _, by
    have := sz_pos c
    unfold Cov; dsimp only; omega⟩
  simp [this]
theorem mkN_gone {ti g c : Int} {P : List Int} {k : Nat} (hk : k < P.length) : sAt ti g c P k ∉ (mkN ti g c P P.length).take k ++ (mkN ti g c P P.length).drop (k + 1) := by
  have key : ∀ i, i < P.length → sAt ti g c P i = sAt ti g c P k → i = k := fun i hi e => by
    unfold sAt at e
    simp only [Prod.mk.injEq] at e
    have := congrArg List.length e.2.2.2.2
    rw [List.length_drop, List.length_drop] at this
    omega
  intro hm
  rcases List.mem_append.1 hm with h | h
  · obtain ⟨i, e⟩ := List.mem_iff_getElem?.1 h
    rw [List.getElem?_take] at e
    split at e
    · rename_i hik
      rw [mkN_at (by omega)] at e
      have := key i (by omega) (Option.some.inj e)
      omega
    · cases e
  · obtain ⟨i, e⟩ := List.mem_iff_getElem?.1 h
    rw [List.getElem?_drop] at e
    have hl : k + 1 + i < P.length := by
      have := (List.getElem?_eq_some_iff.1 e).1
      rwa [mkN_len] at this
    rw [mkN_at hl] at e
    have := key _ hl (Option.some.inj e)
    omega
theorem lacks_less {H : List HoldD} {ti g c lk xk : Int} {P M : List Int} {k : Nat} (h : SMk ti g c lk P M) (hh : H.any (holdsP (lastP P) g c) = true) (hk : k < P.length) (hx : P[k]? = some xk) :
    lacks H ((mkN ti g c P P.length).take k ++ (mkN ti g c P P.length).drop (k + 1)) ti g c lk P M = xk := by
  rw [lacks_lk h hh, lk9_at (fun s hs => List.mem_append_left _ hs) (mkN_at hk) (mkN_gone hk)]
  unfold sAt
  exact getD_of hx
theorem lacks_all {H : List HoldD} {L : List Sl} {ti g c lk : Int} {P M : List Int} (h : SMk ti g c lk P M) (hh : H.any (holdsP (lastP P) g c) = true) :
    (lacks H (L ++ mkN ti g c P P.length) ti g c lk P M == 0) = true :=
  lacks_ok.2 ⟨h, hh, fun k hk => List.mem_append_right _ (List.mem_of_getElem? (mkN_at hk))⟩
theorem cellsF {W w : World} {b : Nat} {vs : List Value} {L : List (Nat × List Value)} (h : Fb W w ((b, vs) :: L)) : ∀ j u, vs[j]? = some u → w.cell? ((⟨b, 0, none⟩ : Addr).add j) = some u := by
  have h1 := (h.own (b, vs) (by simp)).1
  have key : ∀ (vs : List Value) (o : Nat), At w b o vs → ∀ j u, vs[j]? = some u → w.cell? ⟨b, o + j, none⟩ = some u := by
    intro vs
    induction vs with
    | nil => intro o _ j u hu; simp at hu
    | cons v vs ih =>
      intro o ha j u hu
      cases j with
      | zero => simp at hu; subst hu; exact ha.1
      | succ j => rw [show o + (j + 1) = o + 1 + j by omega]; exact ih (o + 1) ha.2.2 j u (by simpa using hu)
  intro j u hu
  rw [addr_add]
  have := key vs 0 h1 j u hu
  rwa [Nat.zero_add] at this
theorem cellsH {W w : World} {b : Nat} {x f n : Int} {L : List (Nat × List Value)} (h : Fb W w ((b, [.int .i64 x, .int .i64 f, .int .i64 n]) :: L)) : ∀ j u, (HoldD.enc ⟨x, f, n⟩)[j]? = some u → w.cell? ((⟨b, 0, none⟩ : Addr).add j) = some u := cellsF h
theorem Sls.app {w : World} {v : Value} {ds es : List SlV} {L K : List Sl} (hr : Rows w v 5 encS (ds ++ es)) (h1 : ds.length = L.length) (h2 : es.length = K.length) (p1 : ∀ (k : Nat) (s : Sl), L[k]? = some s → ∃ u : Value, ds[k]? = some (s.1, s.2.1, s.2.2.1, s.2.2.2.1, u) ∧ Ints w u s.2.2.2.2) (p2 : ∀ (k : Nat) (s : Sl), K[k]? = some s → ∃ u : Value, es[k]? = some (s.1, s.2.1, s.2.2.1, s.2.2.2.1, u) ∧ Ints w u s.2.2.2.2) : Sls w v (L ++ K) :=
  ⟨ds ++ es, hr, by simp [h1, h2], fun k s hk => by
    by_cases hlt : k < L.length
    · rw [List.getElem?_append_left hlt] at hk
      rw [List.getElem?_append_left (by omega)]
      exact p1 k s hk
    · rw [List.getElem?_append_right (by omega)] at hk
      rw [List.getElem?_append_right (by omega), h1]
      exact p2 _ s hk⟩
set_option maxRecDepth 100000 in
set_option maxHeartbeats 8000000 in
theorem FnSealOk_walk (a0 a1 : Option Addr) (n0 c0 n1 d1 : Nat) (a : Addr) (w : World) (h0 : Given w (.slice a0 n0 c0)) (h1 : Given w (.slice a1 n1 d1)) (hE : EPath w a) (htab : Tab w) :
    Calls Tryd.prog 9 #[.slice a0 n0 c0, .slice a1 n1 d1] w fun e w' => e = .returned (.bool true) ∧ Below w.heap.size w w' := by
  by_cases hn0 : 1048576 < n0
  · have e0 : decide (1048576 < (n0 : Int)) = true := by simp; omega
    go_enter Tryd.func9, Tryd.ntmps9
    go_wp2
    go_ret
    exact ⟨rfl, Below.refl _ _⟩
  have e0 : decide (1048576 < (n0 : Int)) = false := by simp; omega
  by_cases hn1 : 1048576 < n1
  · have e1 : decide (1048576 < (n1 : Int)) = true := by simp; omega
    go_enter Tryd.func9, Tryd.ntmps9
    go_wp2
    go_ret
    exact ⟨rfl, Below.refl _ _⟩
  have e1 : decide (1048576 < (n1 : Int)) = false := by simp; omega
  have hF := Fb.start w
  go_enter Tryd.func9, Tryd.ntmps9
  go_wp2_with fail
  refine (drawSealOk_any _ _ h0).mono ?_; rintro e w1 ⟨hv, lv, pv, mv, H, L, g, c, lk, ti, P, M, rfl, hH, hS, hp, hm, hP4, hM9, hH5, hL8, hLs, ht0, ht6, hb1⟩
  clear h0
  obtain ⟨o1, c1, rfl, hnc, hcc, -⟩ := hp.ex
  obtain ⟨o2, c2, rfl, -⟩ := hm.ex
  replace hF := (hF.below hb1).alloc [.int .i64 g, .int .i64 c, .slice o1 P.length c1, .int .i64 lk, .slice o2 M.length c2] 35
  have hb2 := (Below.refl w1.heap.size w1).alloc (Nat.le_refl _) (.cells #[.int .i64 g, .int .i64 c, .slice o1 P.length c1, .int .i64 lk, .slice o2 M.length c2] 35)
  replace hp := Rows.below hp hb2
  replace hm := Rows.below hm hb2
  replace hH := hH.below hb2
  replace hS := hS.below hb2
  replace hE := (hE.below hb1).below hb2
  replace htab := tab_below (tab_below htab hb1) hb2
  obtain ⟨n5, hn5⟩ : ∃ n, w1.heap.size = n := ⟨_, rfl⟩
  rw [hn5] at hF
  clear hb1 hb2
  have HLs := Lib.hid hLs
  clear hLs
  have o := hF.own; simp only [World.size_alloc, World.size_drew, World.size_setCell, List.mem_cons, List.not_mem_nil, or_false, forall_eq_or_imp, forall_eq, At, and_true, Nat.zero_add, Nat.reduceAdd, List.set_cons_zero, List.set_cons_succ] at o
  have HP4 := Lib.hid hP4
  have hPl := hP4.1
  clear hP4
  go_wp2_with fail
  go_fit (iSealOk_any hv lv H L g c lk _ _ P M ti a _ hH hS hp hm hE htab (by omega) (by omega) HLs.out); rintro e w2 ⟨rfl, hb2⟩
  replace hF := hF.below hb2
  replace hp := Rows.below hp hb2
  replace hm := Rows.below hm hb2
  replace hE := hE.below hb2
  replace htab := tab_below htab hb2
  replace hH := hH.below hb2
  replace hS := hS.below hb2
  clear o hb2
  have o := hF.own; simp only [World.size_alloc, World.size_drew, World.size_setCell, List.mem_cons, List.not_mem_nil, or_false, forall_eq_or_imp, forall_eq, At, and_true, Nat.zero_add, Nat.reduceAdd, List.set_cons_zero, List.set_cons_succ] at o
  go_wp2_with fail
  go_fit (sSealOk_any hv lv H L g c lk _ _ P M ti _ hH hS hp hm (by omega)); rintro e w3 ⟨rfl, hb3⟩
  replace hF := hF.below hb3
  replace hp := Rows.below hp hb3
  replace hm := Rows.below hm hb3
  replace hE := hE.below hb3
  replace htab := tab_below htab hb3
  replace hH := hH.below hb3
  replace hS := hS.below hb3
  clear o hb3
  have o := hF.own; simp only [World.size_alloc, World.size_drew, World.size_setCell, List.mem_cons, List.not_mem_nil, or_false, forall_eq_or_imp, forall_eq, At, and_true, Nat.zero_add, Nat.reduceAdd, List.set_cons_zero, List.set_cons_succ] at o
  obtain ⟨B, hB⟩ : ∃ B, (lacks H L ti g c lk P M == 0) = B := ⟨_, rfl⟩
  rw [hB]
  have HB := Lib.hid hB
  have hBB : (B != B) = false := by simp
  have hBE : (B == B) = true := by simp
  clear hB
  go_wp2_with fail
  go_fit (sRouteOk_any g c lk _ _ P M _ hp hm); rintro e w4 ⟨rfl, hb4⟩
  replace hF := hF.below hb4
  replace hp := Rows.below hp hb4
  replace hm := Rows.below hm hb4
  replace hE := hE.below hb4
  replace htab := tab_below htab hb4
  replace hH := hH.below hb4
  replace hS := hS.below hb4
  clear o hb4
  have o := hF.own; simp only [World.size_alloc, World.size_drew, World.size_setCell, List.mem_cons, List.not_mem_nil, or_false, forall_eq_or_imp, forall_eq, At, and_true, Nat.zero_add, Nat.reduceAdd, List.set_cons_zero, List.set_cons_succ] at o
  by_cases k0 : RtOk g c P lk M
  · have d0 : decide (RtOk g c P lk M) = true := by simp [k0]
    have K0 := Lib.hid k0
    clear k0
    go_wp2_with fail
    go_fit (iSealMake_any g c lk _ _ P M ti a _ hp hm hE (by omega)); rintro e w5 ⟨u, rfl, hO, hb5⟩
    by_cases k1 : SMk ti g c lk P M
    · have hq : sealsOf ti g c lk P M = mkN ti g c P P.length := if_pos k1
      rw [hq] at hO
      obtain ⟨us, uc, rfl⟩ := hO.sl
      rw [mkN_len] at hO ⊢
      have HM := Lib.hid (k1.sm (by omega) (Nat.le_refl _))
      have HK := Lib.hid k1
      clear hq k1 d0
      replace hF := hF.below hb5
      replace hp := Rows.below hp hb5
      replace hm := Rows.below hm hb5
      replace hE := hE.below hb5
      replace htab := tab_below htab hb5
      replace hH := hH.below hb5
      replace hS := hS.below hb5
      clear o hb5
      have o := hF.own; simp only [World.size_alloc, World.size_drew, World.size_setCell, List.mem_cons, List.not_mem_nil, or_false, forall_eq_or_imp, forall_eq, At, and_true, Nat.zero_add, Nat.reduceAdd, List.set_cons_zero, List.set_cons_succ] at o
      have hn0 : 0 < P.length := K0.out.2.1
      have dz : ((P.length : Int) == 0) = false := by rw [beq_eq_false_iff_ne]; omega
      obtain ⟨b, off, rfl⟩ := Ints.some hp hn0
      obtain ⟨gs, gc, hus, -⟩ : ∃ g9 c9, (Value.slice us P.length uc) = .slice (some ⟨g9, 0, none⟩) P.length c9 ∧ True := by
        obtain ⟨ds, h1, h2⟩ := hO
        obtain ⟨g9, c9, e, -⟩ := own_some5 h1 (by rw [h2.1, mkN_len]; exact hn0)
        rw [h2.1, mkN_len] at e
        exact ⟨g9, c9, e, trivial⟩
      injection hus with hus1 _ hus3
      subst hus1; subst hus3
      obtain ⟨x, hx⟩ := get_lt (show P.length - 1 < P.length by omega)
      have hxl : Hid (lastP P = x) := getD_of hx
      have cx := Ints.get hp hx
      have hA2 : Hid ((H ++ ([⟨x, g, c⟩] : List HoldD)).any (holdsP (lastP P) g c) = true) := by
        show _ = _
        rw [hxl.out]; exact holds_same K0.out.1
      obtain ⟨k, hk⟩ : ∃ k : Nat, (n1 : Int) % (P.length : Int) = (k : Int) := ⟨((n1 : Int) % (P.length : Int)).toNat, by rw [Int.toNat_of_nonneg (Int.emod_nonneg _ (by omega))]⟩
      have hkl : k < P.length := by have := Int.emod_lt_of_pos (n1 : Int) (show (0 : Int) < (P.length : Int) by omega); omega
      obtain ⟨xk, hxk⟩ := get_lt hkl
      have cxk := Ints.get hp hxk
      have hLK := Lib.hid (lacks_less HK.out hA2.out hkl hxk)
      have hLA := Lib.hid (lacks_all (L := L) HK.out hA2.out)
      clear hx hxk
      go_upto_region 10 with (fail)
      obtain ⟨wb, hwb⟩ : ∃ wb : World, wb = w5 := ⟨_, rfl⟩
      rw [← hwb] at hO hS hp hm hE htab hH hF cx cxk o ⊢
      clear hwb
      have HC := Lib.hid (show wb.cell? ⟨n5, 0, none⟩ = some (.int .i64 g) ∧ wb.cell? ⟨n5, 1, none⟩ = some (.int .i64 c) ∧ wb.cell? ⟨n5, 2, none⟩ = some (.slice (some ⟨b, off, none⟩) P.length c1) ∧ wb.cell? ⟨n5, 3, none⟩ = some (.int .i64 lk) ∧ wb.cell? ⟨n5, 4, none⟩ = some (.slice o2 M.length c2) by simp [o])
      have HX := Lib.hid cx
      have HXK := Lib.hid cxk
      have HO := Lib.hid hO
      have HS := Lib.hid hS
      have HP := Lib.hid hp
      have HMv := Lib.hid hm
      have HE := Lib.hid hE
      have HT := Lib.hid htab
      have HF := Lib.hid hF.kp
      have HH := Lib.hid hH
      have hQ := Fb.start wb
      clear hO hS hp hm hE htab hF hH o cx cxk
      have e1 : ((P.length : Int) - 1).toNat = P.length - 1 := by omega
      have e2 : IntKind.i64.wrap ((P.length : Int) - 1) = (P.length : Int) - 1 := IntWalk.i64_in _ (by omega)
      have e3 : (0 : Int) ≤ (P.length : Int) - 1 := by omega
      have e4 : (P.length : Int) - 1 < (P.length : Int) := by omega
      have e5 : (1 : Int) ≤ (P.length : Int) := by omega
      have tok2 : True := trivial
      have tok3 : True := trivial
      obtain ⟨q0, q1, q2, -, -⟩ := HC.out
      have q9 := HX.out
      go_cut [11] (fun s11 wx => ∃ u : Value, s11 = u ∧ Rows wx u 3 HoldD.enc (H ++ ([⟨x, g, c⟩] : List HoldD)) ∧ Fb wb wx [])
      case first =>
        go_region_held3 (fun w' => w'.cell? ⟨n5, 0, none⟩ = some (.int .i64 g) ∧ w'.cell? ⟨n5, 1, none⟩ = some (.int .i64 c) ∧ w'.cell? ⟨n5, 2, none⟩ = some (.slice (some ⟨b, off, none⟩) P.length c1) ∧ w'.cell? ⟨b, off + (P.length - 1), none⟩ = some (.int .i64 x))
          (first | (with_reducible assumption) | (refine ⟨?_, ?_, ?_, ?_⟩; exact Fb.old (w := wb) (L := []) (by repeat (first | (with_reducible assumption) | (with_reducible apply Fb.drew) | (with_reducible apply Fb.other) | (with_reducible apply Fb.setAway) | (intro q hq; cases hq) | (have := hQ.kp.size; (try simp only [World.size_alloc, World.size_drew, World.size_setCell]); (try dsimp only); omega))) HC.out.1; exact Fb.old (w := wb) (L := []) (by repeat (first | (with_reducible assumption) | (with_reducible apply Fb.drew) | (with_reducible apply Fb.other) | (with_reducible apply Fb.setAway) | (intro q hq; cases hq) | (have := hQ.kp.size; (try simp only [World.size_alloc, World.size_drew, World.size_setCell]); (try dsimp only); omega))) HC.out.2.1; exact Fb.old (w := wb) (L := []) (by repeat (first | (with_reducible assumption) | (with_reducible apply Fb.drew) | (with_reducible apply Fb.other) | (with_reducible apply Fb.setAway) | (intro q hq; cases hq) | (have := hQ.kp.size; (try simp only [World.size_alloc, World.size_drew, World.size_setCell]); (try dsimp only); omega))) HC.out.2.2.1; exact Fb.old (w := wb) (L := []) (by repeat (first | (with_reducible assumption) | (with_reducible apply Fb.drew) | (with_reducible apply Fb.other) | (with_reducible apply Fb.setAway) | (intro q hq; cases hq) | (have := hQ.kp.size; (try simp only [World.size_alloc, World.size_drew, World.size_setCell]); (try dsimp only); omega))) HX.out))
          (first
            | (clear tok2; refine step_appsZ (by rfl) _ _ 42 (by rfl) 41 (.agg #[.int .i64 0, .int .i64 0, .int .i64 0]) 3 24 Tryd.underlying42 infoHold rfl (by decide) (by decide) wb.heap.size HoldD.enc (fun _ => rfl) (.slice (some ⟨_, 0, none⟩) 0 0) [] (by rfl) (by repeat (first | (with_reducible assumption) | (with_reducible apply Own.drew) | exact Own.madeS _ _ _ _ _ _ (by simp) (Below.size (Fb.kp (W := wb) (L := []) (by repeat (first | (with_reducible assumption) | (with_reducible apply Fb.drew) | (with_reducible apply Fb.other) | (with_reducible apply Fb.setAway) | (intro q hq; cases hq) | (have := hQ.kp.size; (try simp only [World.size_alloc, World.size_drew, World.size_setCell]); (try dsimp only); omega))))) | apply Own.alloc)) hv H (fun x _ u hu => by simp [HoldD.enc] at hu; rcases hu with rfl | rfl | rfl <;> rfl) (by rfl) (HH.out.below (Fb.kp (W := wb) (L := []) (by repeat (first | (with_reducible assumption) | (with_reducible apply Fb.drew) | (with_reducible apply Fb.other) | (with_reducible apply Fb.setAway) | (intro q hq; cases hq) | (have := hQ.kp.size; (try simp only [World.size_alloc, World.size_drew, World.size_setCell]); (try dsimp only); omega))))) (by simp; omega) (Below.size (Fb.kp (W := wb) (L := []) (by repeat (first | (with_reducible assumption) | (with_reducible apply Fb.drew) | (with_reducible apply Fb.other) | (with_reducible apply Fb.setAway) | (intro q hq; cases hq) | (have := hQ.kp.size; (try simp only [World.size_alloc, World.size_drew, World.size_setCell]); (try dsimp only); omega))))) ?_; intro v8 w8 hO8 hg8 hb8 hf8; rw [List.nil_append] at hO8; replace hQ := Fb.belowB (W := wb) (L := []) (by repeat (first | (with_reducible assumption) | (with_reducible apply Fb.drew) | (with_reducible apply Fb.other) | (with_reducible apply Fb.setAway) | (intro q hq; cases hq) | (have := hQ.kp.size; (try simp only [World.size_alloc, World.size_drew, World.size_setCell]); (try dsimp only); omega))) hb8 (Nat.le_refl _) (by simp); obtain ⟨g8, e8, h8⟩ := frsh_some hf8; have hF8 := Fb.grown (W := wb) (by repeat (first | (with_reducible exact Fb.start _) | (with_reducible assumption) | (with_reducible apply Fb.drew) | (with_reducible apply Fb.alloc_3) | (with_reducible apply Fb.other))) hg8 (by (try simp only [World.size_alloc, World.size_drew]); omega) (by intro p hp; simp only [List.mem_cons, List.not_mem_nil, or_false] at hp <;> (subst hp; (try simp only [World.size_alloc, World.size_drew]); (try dsimp only); omega)); have s8 := hb8.size; (try simp only [World.size_alloc, World.size_drew] at s8); (try simp only [World.size_alloc, World.size_drew] at hF8); clear hg8 hb8 hf8)
            | (clear tok3; refine step_app1 (by rfl) _ _ 42 (by rfl) 41 (.agg #[.int .i64 0, .int .i64 0, .int .i64 0]) 3 24 Tryd.underlying42 infoHold rfl (by decide) (by decide) wb.heap.size HoldD.enc v8 H (by rfl) (by repeat (first | (with_reducible assumption) | (with_reducible apply Own.drew) | (with_reducible apply Own.alloc))) ⟨x, g, c⟩ ⟨_, 0, none⟩ 1 (by rfl) rfl (by first | exact cells_newD _ _ _ | exact cells_new _ _ _ | exact cellsH (by repeat (first | (with_reducible exact Fb.start _) | (with_reducible assumption) | (with_reducible apply Fb.drew) | (with_reducible apply Fb.alloc_3) | (with_reducible apply Fb.other)))) (fun u hu => by simp [HoldD.enc] at hu; rcases hu with rfl | rfl | rfl <;> rfl) (by omega) (Below.size (Fb.kp (W := wb) (L := []) (by repeat (first | (with_reducible assumption) | (with_reducible apply Fb.drew) | (with_reducible apply Fb.other) | (with_reducible apply Fb.setAway) | (intro q hq; cases hq) | (have := hQ.kp.size; (try simp only [World.size_alloc, World.size_drew, World.size_setCell]); (try dsimp only); omega))))) ?_; intro v9 w9 hO9 hg9 hb9 hf9; replace hQ := Fb.belowB (W := wb) (L := []) (by repeat (first | (with_reducible assumption) | (with_reducible apply Fb.drew) | (with_reducible apply Fb.other) | (with_reducible apply Fb.setAway) | (intro q hq; cases hq) | (have := hQ.kp.size; (try simp only [World.size_alloc, World.size_drew, World.size_setCell]); (try dsimp only); omega))) hb9 (Nat.le_refl _) (by simp); clear hF8; have hR9 := hO9.rows (fun _ => rfl); clear hO9 hg9 hb9 hf9))
        all_goals
          go_wp2_with fail
          go_meet
          case rel => exact ⟨_, rfl, hR9, hQ⟩
      case rest =>
        obtain ⟨hw, rfl, hR9, hFb⟩ := hcut
        clear q0 q1 q2 q9 hQ tok2 tok3 e1 e2 e3 e4 e5
        obtain ⟨we, hwe⟩ : ∃ we : World, we = wc := ⟨_, rfl⟩
        rw [← hwe] at hR9 hFb ⊢
        clear hwe
        have HKc := Lib.hid hFb.kp
        have HH2 := Lib.hid hR9
        clear hFb hR9
        obtain ⟨ds, hO1, hG⟩ := HO.out
        have hRo := hO1.rows (fun _ => rfl)
        have hcc1 : P.length ≤ uc ∧ uc ≤ 9223372036854775807 := by
          obtain ⟨ao, cap, e, k1, k2, -⟩ := hRo.ex
          injection e with e1 e2 e3
          omega
        obtain ⟨hcu, hcu2⟩ := hcc1
        have HDL : Hid (ds.length = P.length) := hG.1.trans (mkN_len ..)
        have hT1 := Lib.hid (rows_take (hRo.below HKc.out) (k := k) (by omega))
        have hT2 := Lib.hid (rows_drop (hRo.below HKc.out) (k := k + 1) (by omega))
        have hOne1 := Lib.hid (fun d (hd : d ∈ ds.take k) => hG.one d (List.mem_of_mem_take hd))
        have hOne2 := Lib.hid (fun d (hd : d ∈ ds.drop (k + 1)) => hG.one d (List.mem_of_mem_drop hd))
        have hOneA := Lib.hid hG.one
        have HRl := Lib.hid hG
        have HRo := Lib.hid hRo
        clear hO1 hG hRo
        have g0 : (0 : Int) ≤ (k : Int) := by omega
        have g1 : (k : Int) ≤ (uc : Int) := by omega
        have g2 : (k : Int) + 1 ≤ (P.length : Int) := by omega
        have g4 : IntKind.i64.wrap ((k : Int) + 1) = (k : Int) + 1 := IntWalk.i64_in _ (by omega)
        have g5 : ((k : Int) + 1).toNat = k + 1 := by omega
        have g6 : (0 : Int) ≤ (k : Int) + 1 := by omega
        have g7 : (P.length : Int) ≤ (uc : Int) := by omega
        have g8 : (k : Int) + 1 ≤ (uc : Int) := by omega
        have m0 : (0 : Int) ≤ (n1 : Int) := by omega
        go_upto_region 12 with (fail)
        rw [hk]
        have tok2 : True := trivial
        have tok3 : True := trivial
        go_cut [13] (fun s13 wx => ∃ u : Value, s13 = u ∧ Sls wx u ((mkN ti g c P P.length).take k ++ (mkN ti g c P P.length).drop (k + 1)) ∧ Fb we wx [])
        case first =>
          have hQ := Fb.start we
          clear hk hkl dz hn0 hBB hBE hn5 hcu2
          by_cases hcap : uc = k + 1
          · have hcap2 : k + 1 = uc := hcap.symm
            have hT3 : Hid (Rows we (.slice (some ⟨gs, 0, none⟩) 0 0) 5 encS (ds.drop (k + 1))) := by
              have e : ds.drop (k + 1) = [] := List.drop_eq_nil_of_le (by rw [HDL.out]; omega)
              show Rows _ _ _ _ _
              rw [e]; exact Rows.nil _ _ _ (by omega) _ _
            clear hcap
            go_region_held3 (fun _ => True) (trivial)
              (first
                | (clear tok2; refine step_appsM (by rfl) _ _ 23 (by rfl) 28 (.agg #[.int .i64 0, .int .i64 0, .int .i64 0, .int .i64 0, .slice none 0 0]) 5 56 Tryd.underlying23 infoSl rfl (by decide) (by decide) we.heap.size encS (fun _ => rfl) (.slice (some ⟨we.heap.size, 0, none⟩) 0 0) [] (by rfl) (Own.drew (Own.made _ we _ _ _ (Nat.le_refl _))) gs 0 k uc (ds.take k) hOne1.out (by rfl) (hT1.out.below (Fb.kp (W := we) (L := []) (by repeat (first | assumption | apply Fb.alloc_1 | apply Fb.alloc_2 | apply Fb.alloc_3 | apply Fb.alloc_4 | apply Fb.alloc_5 | apply Fb.alloc_8 | apply Fb.drew | apply Fb.drewN | apply Fb.other)))) (by simp; omega) (Below.size (Fb.kp (W := we) (L := []) (by repeat (first | assumption | apply Fb.alloc_1 | apply Fb.alloc_2 | apply Fb.alloc_3 | apply Fb.alloc_4 | apply Fb.alloc_5 | apply Fb.alloc_8 | apply Fb.drew | apply Fb.drewN | apply Fb.other)))) ?_; intro v8 w8 hO8 hg8 hb8 hf8; rw [List.nil_append] at hO8; have hQ8 : Below we.heap.size we w8 := Below.trans (Fb.kp (W := we) (L := []) (by repeat (first | assumption | apply Fb.alloc_1 | apply Fb.alloc_2 | apply Fb.alloc_3 | apply Fb.alloc_4 | apply Fb.alloc_5 | apply Fb.alloc_8 | apply Fb.drew | apply Fb.drewN | apply Fb.other))) hb8; clear hg8 hb8 hf8)
                | (clear tok3; refine step_appsM (by rfl) _ _ 23 (by rfl) 28 (.agg #[.int .i64 0, .int .i64 0, .int .i64 0, .int .i64 0, .slice none 0 0]) 5 56 Tryd.underlying23 infoSl rfl (by decide) (by decide) we.heap.size encS (fun _ => rfl) v8 (ds.take k) (by rfl) hO8 gs 0 0 0 (ds.drop (k + 1)) hOne2.out (by rfl) (hT3.out.below hQ8) (by rw [List.length_take]; omega) hQ8.size ?_; intro v9 w9 hO9 hg9 hb9 hf9; have hQ9 : Below we.heap.size we w9 := hQ8.trans hb9; clear hg9 hb9 hf9))
            all_goals
              have R9 := HRl.out.below (HKc.out.trans (hQ9.mono HKc.out.size))
              have hS9 : Sls w9 v9 ((mkN ti g c P P.length).take k ++ (mkN ti g c P P.length).drop (k + 1)) := Sls.app (hO9.rows (fun _ => rfl)) (R9.take k).1 (R9.drop (k + 1)).1 (fun j s hj => by obtain ⟨u, a, b, -⟩ := (R9.take k).2 j s hj; exact ⟨u, a, b⟩) (fun j s hj => by obtain ⟨u, a, b, -⟩ := (R9.drop (k + 1)).2 j s hj; exact ⟨u, a, b⟩)
              go_wp2_with fail
              go_meet
              case rel => exact ⟨_, rfl, hS9, (Fb.start we).below hQ9⟩
          · have hT3 : Hid (Rows we (.slice (some ⟨gs, (k + 1) * 5, none⟩) (P.length - (k + 1)) (uc - (k + 1))) 5 encS (ds.drop (k + 1))) := by
              have := hT2.out
              rw [Nat.zero_add] at this
              exact this
            go_region_held3 (fun _ => True) (trivial)
              (first
                | (clear tok2; refine step_appsM (by rfl) _ _ 23 (by rfl) 28 (.agg #[.int .i64 0, .int .i64 0, .int .i64 0, .int .i64 0, .slice none 0 0]) 5 56 Tryd.underlying23 infoSl rfl (by decide) (by decide) we.heap.size encS (fun _ => rfl) (.slice (some ⟨we.heap.size, 0, none⟩) 0 0) [] (by rfl) (Own.drew (Own.made _ we _ _ _ (Nat.le_refl _))) gs 0 k uc (ds.take k) hOne1.out (by rfl) (hT1.out.below (Fb.kp (W := we) (L := []) (by repeat (first | assumption | apply Fb.alloc_1 | apply Fb.alloc_2 | apply Fb.alloc_3 | apply Fb.alloc_4 | apply Fb.alloc_5 | apply Fb.alloc_8 | apply Fb.drew | apply Fb.drewN | apply Fb.other)))) (by simp; omega) (Below.size (Fb.kp (W := we) (L := []) (by repeat (first | assumption | apply Fb.alloc_1 | apply Fb.alloc_2 | apply Fb.alloc_3 | apply Fb.alloc_4 | apply Fb.alloc_5 | apply Fb.alloc_8 | apply Fb.drew | apply Fb.drewN | apply Fb.other)))) ?_; intro v8 w8 hO8 hg8 hb8 hf8; rw [List.nil_append] at hO8; have hQ8 : Below we.heap.size we w8 := Below.trans (Fb.kp (W := we) (L := []) (by repeat (first | assumption | apply Fb.alloc_1 | apply Fb.alloc_2 | apply Fb.alloc_3 | apply Fb.alloc_4 | apply Fb.alloc_5 | apply Fb.alloc_8 | apply Fb.drew | apply Fb.drewN | apply Fb.other))) hb8; clear hg8 hb8 hf8)
                | (clear tok3; refine step_appsM (by rfl) _ _ 23 (by rfl) 28 (.agg #[.int .i64 0, .int .i64 0, .int .i64 0, .int .i64 0, .slice none 0 0]) 5 56 Tryd.underlying23 infoSl rfl (by decide) (by decide) we.heap.size encS (fun _ => rfl) v8 (ds.take k) (by rfl) hO8 gs ((k + 1) * 5) (P.length - (k + 1)) (uc - (k + 1)) (ds.drop (k + 1)) hOne2.out (by rfl) (hT3.out.below hQ8) (by rw [List.length_take]; omega) hQ8.size ?_; intro v9 w9 hO9 hg9 hb9 hf9; have hQ9 : Below we.heap.size we w9 := hQ8.trans hb9; clear hg9 hb9 hf9))
            all_goals
              have R9 := HRl.out.below (HKc.out.trans (hQ9.mono HKc.out.size))
              have hS9 : Sls w9 v9 ((mkN ti g c P P.length).take k ++ (mkN ti g c P P.length).drop (k + 1)) := Sls.app (hO9.rows (fun _ => rfl)) (R9.take k).1 (R9.drop (k + 1)).1 (fun j s hj => by obtain ⟨u, a, b, -⟩ := (R9.take k).2 j s hj; exact ⟨u, a, b⟩) (fun j s hj => by obtain ⟨u, a, b, -⟩ := (R9.drop (k + 1)).2 j s hj; exact ⟨u, a, b⟩)
              go_wp2_with fail
              go_meet
              case rel => exact ⟨_, rfl, hS9, (Fb.start we).below hQ9⟩
        case rest =>
          obtain ⟨v13, rfl, hS13, hFc⟩ := hcut
          clear tok2 tok3
          obtain ⟨wf, hwf⟩ : ∃ wf : World, wf = wc := ⟨_, rfl⟩
          rw [← hwf] at hS13 hFc ⊢
          clear hwf
          have Kf : Below wb.heap.size wb wf := HKc.out.trans (hFc.kp.mono HKc.out.size)
          obtain ⟨dl, hRL, hlL, hpL⟩ := HS.out.ex
          have HRL := Lib.hid (hRL.below Kf)
          have HOL := Lib.hid (sls_one hlL hpL)
          have HpL := Lib.hid (fun (j : Nat) (s : Sl) (hj : L[j]? = some s) => (show ∃ u : Value, dl[j]? = some (s.1, s.2.1, s.2.2.1, s.2.2.2.1, u) ∧ Ints wf u s.2.2.2.2 from by obtain ⟨u, e, i⟩ := hpL j s hj; exact ⟨u, e, Rows.below i Kf⟩))
          have HlL := Lib.hid hlL
          clear hRL hlL hpL
          have HRf := Lib.hid (HRo.out.below Kf)
          have HGf := Lib.hid (HRl.out.below Kf)
          have HHf := Lib.hid (HH2.out.below hFc.kp)
          have HS13 := Lib.hid hS13
          have HPf := Lib.hid (Rows.below HP.out Kf)
          have HMf := Lib.hid (Rows.below HMv.out Kf)
          have HEf := Lib.hid (HE.out.below Kf)
          have HTf := Lib.hid (tab_below HT.out Kf)
          have HKf := Lib.hid Kf
          have oldf : ∀ {p : Addr} {u : Value}, wb.cell? p = some u → wf.cell? p = some u := fun hp => (Kf.cell (World.block_lt_of_cell? _ _ hp)).trans hp
          have HCf := Lib.hid (⟨oldf HC.out.1, oldf HC.out.2.1, oldf HC.out.2.2.1, oldf HC.out.2.2.2.1, oldf HC.out.2.2.2.2, oldf HXK.out⟩ : wf.cell? ⟨n5, 0, none⟩ = some (.int .i64 g) ∧ wf.cell? ⟨n5, 1, none⟩ = some (.int .i64 c) ∧ wf.cell? ⟨n5, 2, none⟩ = some (.slice (some ⟨b, off, none⟩) P.length c1) ∧ wf.cell? ⟨n5, 3, none⟩ = some (.int .i64 lk) ∧ wf.cell? ⟨n5, 4, none⟩ = some (.slice o2 M.length c2) ∧ wf.cell? ⟨b, off + k, none⟩ = some (.int .i64 xk))
          have CA := Lib.hid (fun (w' : World) (u9 : Value) (K : Below wf.heap.size wf w') (h9 : Sls w' u9 (L ++ mkN ti g c P P.length)) => (show Calls Tryd.prog 19 #[u11, u9, .agg #[.int .i64 g, .int .i64 c, .slice (some ⟨b, off, none⟩) P.length c1, .int .i64 lk, .slice o2 M.length c2], .int .i64 ti] w' fun e w'' => e = .returned (.bool true) ∧ Below w'.heap.size w' w'' from by
            have cA := iSealOk_any u11 u9 (H ++ ([⟨x, g, c⟩] : List HoldD)) (L ++ mkN ti g c P P.length) g c lk (.slice (some ⟨b, off, none⟩) P.length c1) (.slice o2 M.length c2) P M ti a w' (HHf.out.below K) h9 (Rows.below HPf.out K) (Rows.below HMf.out K) (HEf.out.below K) (tab_below HTf.out K) (by omega) (by rw [List.length_append, mkN_len]; omega) (fun s hs => (List.mem_append.1 hs).elim (HLs.out s) (HM.out s))
            rwa [hLA.out] at cA))
          have CB := Lib.hid (fun (w' : World) (K : Below wf.heap.size wf w') => (show Calls Tryd.prog 23 #[u11, u13, .agg #[.int .i64 g, .int .i64 c, .slice (some ⟨b, off, none⟩) P.length c1, .int .i64 lk, .slice o2 M.length c2], .int .i64 ti] w' fun e w'' => e = .returned (.int .i64 xk) ∧ Below w'.heap.size w' w'' from by
            have cB := iSealLacks_any u11 u13 (H ++ ([⟨x, g, c⟩] : List HoldD)) ((mkN ti g c P P.length).take k ++ (mkN ti g c P P.length).drop (k + 1)) g c lk (.slice (some ⟨b, off, none⟩) P.length c1) (.slice o2 M.length c2) P M ti a w' (HHf.out.below K) (HS13.out.below K) (Rows.below HPf.out K) (Rows.below HMf.out K) (HEf.out.below K) (tab_below HTf.out K) (by omega) (by rw [List.length_append, List.length_take, List.length_drop, mkN_len]; omega) (fun s hs => (List.mem_append.1 hs).elim (fun h => HM.out s (List.mem_of_mem_take h)) (fun h => HM.out s (List.mem_of_mem_drop h)))
            rwa [hLK.out] at cB))
          have hQ := Fb.start wf
          clear hS13 hFc Kf oldf hk hBB hBE hn5 hcu hcu2 g2 g4 g5 g6 g7 g8 m0
          have tok4 : True := trivial
          have tok5 : True := trivial
          have tok6 : True := trivial
          have gk : (k : Int) < (P.length : Int) := by omega
          have dxx : (xk == xk) = true := by simp
          obtain ⟨q0, q1, q2, q3, q4, q5⟩ := HCf.out
          go_upto_region 13 with (fail)
          go_region_held3 (fun w' => w'.cell? ⟨n5, 0, none⟩ = some (.int .i64 g) ∧ w'.cell? ⟨n5, 1, none⟩ = some (.int .i64 c) ∧ w'.cell? ⟨n5, 2, none⟩ = some (.slice (some ⟨b, off, none⟩) P.length c1) ∧ w'.cell? ⟨n5, 3, none⟩ = some (.int .i64 lk) ∧ w'.cell? ⟨n5, 4, none⟩ = some (.slice o2 M.length c2) ∧ w'.cell? ⟨b, off + k, none⟩ = some (.int .i64 xk))
            (first | (with_reducible assumption) | (refine ⟨?_, ?_, ?_, ?_, ?_, ?_⟩; exact Fb.old (w := wf) (L := []) (by repeat (first | (with_reducible assumption) | (with_reducible apply Fb.drew) | (with_reducible apply Fb.other) | (with_reducible apply Fb.setAway) | (intro q hq; cases hq) | (have := hQ.kp.size; (try simp only [World.size_alloc, World.size_drew, World.size_setCell]); (try dsimp only); omega))) HCf.out.1; exact Fb.old (w := wf) (L := []) (by repeat (first | (with_reducible assumption) | (with_reducible apply Fb.drew) | (with_reducible apply Fb.other) | (with_reducible apply Fb.setAway) | (intro q hq; cases hq) | (have := hQ.kp.size; (try simp only [World.size_alloc, World.size_drew, World.size_setCell]); (try dsimp only); omega))) HCf.out.2.1; exact Fb.old (w := wf) (L := []) (by repeat (first | (with_reducible assumption) | (with_reducible apply Fb.drew) | (with_reducible apply Fb.other) | (with_reducible apply Fb.setAway) | (intro q hq; cases hq) | (have := hQ.kp.size; (try simp only [World.size_alloc, World.size_drew, World.size_setCell]); (try dsimp only); omega))) HCf.out.2.2.1; exact Fb.old (w := wf) (L := []) (by repeat (first | (with_reducible assumption) | (with_reducible apply Fb.drew) | (with_reducible apply Fb.other) | (with_reducible apply Fb.setAway) | (intro q hq; cases hq) | (have := hQ.kp.size; (try simp only [World.size_alloc, World.size_drew, World.size_setCell]); (try dsimp only); omega))) HCf.out.2.2.2.1; exact Fb.old (w := wf) (L := []) (by repeat (first | (with_reducible assumption) | (with_reducible apply Fb.drew) | (with_reducible apply Fb.other) | (with_reducible apply Fb.setAway) | (intro q hq; cases hq) | (have := hQ.kp.size; (try simp only [World.size_alloc, World.size_drew, World.size_setCell]); (try dsimp only); omega))) HCf.out.2.2.2.2.1; exact Fb.old (w := wf) (L := []) (by repeat (first | (with_reducible assumption) | (with_reducible apply Fb.drew) | (with_reducible apply Fb.other) | (with_reducible apply Fb.setAway) | (intro q hq; cases hq) | (have := hQ.kp.size; (try simp only [World.size_alloc, World.size_drew, World.size_setCell]); (try dsimp only); omega))) HCf.out.2.2.2.2.2))
            (first
              | (clear tok4; refine step_appsZ (by rfl) _ _ 23 (by rfl) 28 (.agg #[.int .i64 0, .int .i64 0, .int .i64 0, .int .i64 0, .slice none 0 0]) 5 56 Tryd.underlying23 infoSl rfl (by decide) (by decide) wf.heap.size encS (fun _ => rfl) (.slice (some ⟨_, 0, none⟩) 0 0) [] (by rfl) (by repeat (first | (with_reducible assumption) | (with_reducible apply Own.drew) | exact Own.madeS _ _ _ _ _ _ (by simp) (Below.size (Fb.kp (W := wf) (L := []) (by repeat (first | (with_reducible assumption) | (with_reducible apply Fb.drew) | (with_reducible apply Fb.other) | (with_reducible apply Fb.setAway) | (intro q hq; cases hq) | (have := hQ.kp.size; (try simp only [World.size_alloc, World.size_drew, World.size_setCell]); (try dsimp only); omega))))) | apply Own.alloc)) lv dl HOL.out (by rfl) (HRL.out.below (Fb.kp (W := wf) (L := []) (by repeat (first | (with_reducible assumption) | (with_reducible apply Fb.drew) | (with_reducible apply Fb.other) | (with_reducible apply Fb.setAway) | (intro q hq; cases hq) | (have := hQ.kp.size; (try simp only [World.size_alloc, World.size_drew, World.size_setCell]); (try dsimp only); omega))))) (by have := HlL.out; simp; omega) (Below.size (Fb.kp (W := wf) (L := []) (by repeat (first | (with_reducible assumption) | (with_reducible apply Fb.drew) | (with_reducible apply Fb.other) | (with_reducible apply Fb.setAway) | (intro q hq; cases hq) | (have := hQ.kp.size; (try simp only [World.size_alloc, World.size_drew, World.size_setCell]); (try dsimp only); omega))))) ?_; intro v8 w8 hO8 hg8 hb8 hf8; rw [List.nil_append] at hO8; replace hQ := Fb.belowB (W := wf) (by repeat (first | (with_reducible assumption) | (with_reducible apply Fb.drew) | (with_reducible apply Fb.other) | (with_reducible apply Fb.setAway) | (intro q hq; cases hq) | (have := hQ.kp.size; (try simp only [World.size_alloc, World.size_drew, World.size_setCell]); (try dsimp only); omega))) hb8 (Nat.le_refl _) (by simp); clear hg8 hb8 hf8)
              | (clear tok5; refine step_appsZ (by rfl) _ _ 23 (by rfl) 28 (.agg #[.int .i64 0, .int .i64 0, .int .i64 0, .int .i64 0, .slice none 0 0]) 5 56 Tryd.underlying23 infoSl rfl (by decide) (by decide) wf.heap.size encS (fun _ => rfl) v8 dl (by rfl) (by repeat (first | (with_reducible assumption) | (with_reducible apply Own.drew) | (with_reducible apply Own.alloc))) (.slice (some ⟨gs, 0, none⟩) P.length uc) ds hOneA.out (by rfl) (HRf.out.below (Fb.kp (W := wf) (L := []) (by repeat (first | (with_reducible assumption) | (with_reducible apply Fb.drew) | (with_reducible apply Fb.other) | (with_reducible apply Fb.setAway) | (intro q hq; cases hq) | (have := hQ.kp.size; (try simp only [World.size_alloc, World.size_drew, World.size_setCell]); (try dsimp only); omega))))) (by have := HlL.out; have := HDL.out; omega) (Below.size (Fb.kp (W := wf) (L := []) (by repeat (first | (with_reducible assumption) | (with_reducible apply Fb.drew) | (with_reducible apply Fb.other) | (with_reducible apply Fb.setAway) | (intro q hq; cases hq) | (have := hQ.kp.size; (try simp only [World.size_alloc, World.size_drew, World.size_setCell]); (try dsimp only); omega))))) ?_; intro v9 w9 hO9 hg9 hb9 hf9; replace hQ := Fb.belowB (W := wf) (by repeat (first | (with_reducible assumption) | (with_reducible apply Fb.drew) | (with_reducible apply Fb.other) | (with_reducible apply Fb.setAway) | (intro q hq; cases hq) | (have := hQ.kp.size; (try simp only [World.size_alloc, World.size_drew, World.size_setCell]); (try dsimp only); omega))) hb9 (Nat.le_refl _) (by simp); have hS9 : Sls w9 v9 (L ++ mkN ti g c P P.length) := Sls.app (hO9.rows (fun _ => rfl)) HlL.out (HDL.out.trans (mkN_len ..).symm) (fun j s hj => by obtain ⟨u, e, i⟩ := HpL.out j s hj; exact ⟨u, e, Rows.below i hQ.kp⟩) (fun j s hj => by obtain ⟨u, e, i, -⟩ := HGf.out.2 j s hj; exact ⟨u, e, Rows.below i hQ.kp⟩); have HS9 := Lib.hid hS9; clear hO9 hg9 hb9 hf9 hS9)
              | (go_at_call 19; clear tok6; go_must (refine (CA.out _ v9 (Fb.kp (W := wf) (L := []) (by repeat (first | (with_reducible assumption) | (with_reducible apply Fb.drew) | (with_reducible apply Fb.other) | (with_reducible apply Fb.setAway) | (intro q hq; cases hq) | (have := hQ.kp.size; (try simp only [World.size_alloc, World.size_drew, World.size_setCell]); (try dsimp only); omega)))) (by first | exact HS9.out | exact HS9.out.below (Below.refl _ _).drew)).mono ?_); rintro e wy ⟨rfl, hby⟩; replace hQ := Fb.below (W := wf) (L := []) (by repeat (first | (with_reducible assumption) | (with_reducible apply Fb.drew) | (with_reducible apply Fb.other) | (with_reducible apply Fb.setAway) | (intro q hq; cases hq) | (have := hQ.kp.size; (try simp only [World.size_alloc, World.size_drew, World.size_setCell]); (try dsimp only); omega))) hby; clear hby)
              | (go_at_call 23; go_must (refine (CB.out _ (Fb.kp (W := wf) (L := []) (by repeat (first | (with_reducible assumption) | (with_reducible apply Fb.drew) | (with_reducible apply Fb.other) | (with_reducible apply Fb.setAway) | (intro q hq; cases hq) | (have := hQ.kp.size; (try simp only [World.size_alloc, World.size_drew, World.size_setCell]); (try dsimp only); omega))))).mono ?_); rintro e wy ⟨rfl, hby⟩; replace hQ := Fb.below (W := wf) (L := []) (by repeat (first | (with_reducible assumption) | (with_reducible apply Fb.drew) | (with_reducible apply Fb.other) | (with_reducible apply Fb.setAway) | (intro q hq; cases hq) | (have := hQ.kp.size; (try simp only [World.size_alloc, World.size_drew, World.size_setCell]); (try dsimp only); omega))) hby; clear hby))
          all_goals
            go_wp2
            go_ret
            exact ⟨rfl, HF.out.trans ((HKf.out.trans (hQ.kp.mono HKf.out.size)).mono HF.out.size)⟩
    · have hq : sealsOf ti g c lk P M = [] := if_neg k1
      rw [hq] at hO
      obtain ⟨us, uc, rfl⟩ := hO.sl
      simp only [List.length_nil] at hO ⊢
      have hB0 : B = false := by
        rw [← HB.out, lacks_bad k1]; rfl
      subst hB0
      replace hF := hF.below hb5
      clear hO hb5
      go_wp2
      go_ret
      exact ⟨rfl, hF.kp⟩
  · have d0 : decide (RtOk g c P lk M) = false := by simp [k0]
    clear k0
    go_wp2_with fail
    have cS := sSealOk_any hv lv H L g c lk _ _ P M ti _ hH hS hp hm (by omega)
    rw [HB.out] at cS
    go_fit cS; rintro e w5 ⟨rfl, hb5⟩
    replace hF := hF.below hb5
    clear hb5 cS
    go_wp2
    go_ret
    exact ⟨rfl, hF.kp⟩
end Go.Proofs.YtiocomefkckbfaaDoor
