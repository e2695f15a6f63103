/- FnSealMore: the walk. -/
import Derived.Test.YtiocomefkckbfaaDoorZ23
set_option linter.unusedSimpArgs false
set_option linter.unusedVariables false
namespace Go.Proofs.YtiocomefkckbfaaDoor
open Go.RowKit Go.Maps Go.WideMaps

theorem lacks_more {H H' : List HoldD} {L L' : List Sl} {ti g c lk : Int} {P M : List Int} (h : (lacks H L ti g c lk P M == 0) = true) (hH : ∀ x ∈ H, x ∈ H') (hL : ∀ s ∈ L, s ∈ L') : (lacks H' L' ti g c lk P M == 0) = true := by
  obtain ⟨h1, h2, h3⟩ := lacks_ok.1 h
  refine lacks_ok.2 ⟨h1, ?_, fun k hk => hL _ (h3 k hk)⟩
  obtain ⟨x, hx, hx2⟩ := List.any_eq_true.1 h2
  exact List.any_eq_true.2 ⟨x, hH x hx, hx2⟩
theorem mok_nil : MOk [] := fun i hi => by simp at hi
theorem lacks_like {H : List HoldD} {L : List Sl} {ti g c lk lk2 : Int} {P M : List Int} (h : (lacks H L ti g c lk P M == 0) = true) (hl : Bts lk2 0 9) : (lacks H L ti g c lk2 P [] == 0) = true := by
  obtain ⟨⟨⟨h1, h2, h3, h4, h5⟩, h6, h7⟩, h8, h9⟩ := lacks_ok.1 h
  exact lacks_ok.2 ⟨⟨⟨h1, h2, h3, hl, mok_nil⟩, h6, h7⟩, h8, h9⟩
theorem lyF_bd (n : Nat) : 0 ≤ lyF n ∧ lyF n ≤ 255 := by
  unfold lyF
  have s1 := sz_pos ((n : Int) % 9)
  have q2 : 0 ≤ (n : Int) * 37 % 256 := by omega
  have q3 : (n : Int) * 37 % 256 < 256 := by omega
  have z1 : 0 ≤ (n : Int) * 37 % 256 / sz ((n : Int) % 9) := Int.ediv_nonneg q2 (by omega)
  have z2 : (n : Int) * 37 % 256 / sz ((n : Int) % 9) * sz ((n : Int) % 9) ≤ (n : Int) * 37 % 256 := Int.ediv_mul_le _ (by omega)
  have z3 : 0 ≤ (n : Int) * 37 % 256 / sz ((n : Int) % 9) * sz ((n : Int) % 9) := Int.mul_nonneg z1 (by omega)
  omega
/-- A seal ahead of others. -/
theorem Sls.cons {w : World} {v u : Value} {ds : List SlV} {L : List Sl} {x t f n : Int} {p : List Int} (hr : Rows w v 5 encS ((x, t, f, n, u) :: ds)) (hu : Ints w u p) (hl : ds.length = L.length) (hp : ∀ (k : Nat) (s : Sl), L[k]? = some s → ∃ u : Value, ds[k]? = some (s.1, s.2.1, s.2.2.1, s.2.2.2.1, u) ∧ Ints w u s.2.2.2.2) : Sls w v ((x, t, f, n, p) :: L) :=
  ⟨_, hr, by simp [hl], fun k s hk => by
    cases k with
    | zero => simp at hk; subst hk; exact ⟨u, rfl, hu⟩
    | succ k => exact hp k s (by simpa using hk)⟩
theorem sls_one {w : World} {ds : List SlV} {L : List Sl} (hl : ds.length = L.length) (hp : ∀ (k : Nat) (s : Sl), L[k]? = some s → ∃ u : Value, ds[k]? = some (s.1, s.2.1, s.2.2.1, s.2.2.2.1, u) ∧ Ints w u s.2.2.2.2) : ∀ d ∈ ds, ∀ u ∈ encS d, u.oneCell' = true := fun d hd => by
  obtain ⟨k, hk, e⟩ := List.mem_iff_getElem.1 hd
  obtain ⟨s, hs⟩ := get_lt (L := L) (k := k) (by rw [← hl]; exact hk)
  obtain ⟨u, a, b⟩ := hp k s hs
  rw [List.getElem?_eq_getElem hk, e] at a
  injection a with a
  refine one_encS d ?_
  rw [a]
  obtain ⟨ao, c, e2, -⟩ := b.ex
  show u.oneCell' = true
  rw [e2]; rfl
set_option maxRecDepth 100000 in
set_option maxHeartbeats 8000000 in
theorem FnSealMore_walk (a0 a1 : Option Addr) (n0 c0 n1 d1 : Nat) (a : Addr) (w : World) (h0 : Given w (.slice a0 n0 c0)) (h1 : Given w (.slice a1 n1 d1)) (hE : EPath w a) (htab : Tab w) :
    Calls Tryd.prog 10 #[.slice a0 n0 c0, .slice a1 n1 d1] w fun e w' => e = .returned (.bool true) ∧ Below w.heap.size w w' := by
  by_cases hn0 : 1048576 < n0
  · have e0 : decide (1048576 < (n0 : Int)) = true := by simp; omega
    go_enter Tryd.func10, Tryd.ntmps10
    go_wp2
    go_ret
    exact ⟨rfl, Below.refl _ _⟩
  have e0 : decide (1048576 < (n0 : Int)) = false := by simp; omega
  by_cases hn1 : 1048576 < n1
  · have e1 : decide (1048576 < (n1 : Int)) = true := by simp; omega
    go_enter Tryd.func10, Tryd.ntmps10
    go_wp2
    go_ret
    exact ⟨rfl, Below.refl _ _⟩
  have e1 : decide (1048576 < (n1 : Int)) = false := by simp; omega
  have hF := Fb.start w
  go_enter Tryd.func10, Tryd.ntmps10
  go_wp2_with fail
  refine (drawSealOk_any _ _ h0).mono ?_; rintro e w1 ⟨hv, lv, pv, mv, H, L, g, c, lk, ti, P, M, rfl, hH, hS, hp, hm, hP4, hM9, hH5, hL8, hLs, ht0, ht6, hb1⟩
  clear h0
  obtain ⟨o1, c1, rfl, hnc, hcc, -⟩ := hp.ex
  obtain ⟨o2, c2, rfl, -⟩ := hm.ex
  replace hF := (hF.below hb1).alloc [.int .i64 g, .int .i64 c, .slice o1 P.length c1, .int .i64 lk, .slice o2 M.length c2] 35
  have hb2 := (Below.refl w1.heap.size w1).alloc (Nat.le_refl _) (.cells #[.int .i64 g, .int .i64 c, .slice o1 P.length c1, .int .i64 lk, .slice o2 M.length c2] 35)
  replace hp := Rows.below hp hb2
  replace hm := Rows.below hm hb2
  replace hH := hH.below hb2
  replace hS := hS.below hb2
  replace hE := (hE.below hb1).below hb2
  replace htab := tab_below (tab_below htab hb1) hb2
  obtain ⟨n5, hn5⟩ : ∃ n, w1.heap.size = n := ⟨_, rfl⟩
  rw [hn5] at hF
  clear hb1 hb2
  have HLs := Lib.hid hLs
  clear hLs
  have o := hF.own; simp only [World.size_alloc, World.size_drew, World.size_setCell, List.mem_cons, List.not_mem_nil, or_false, forall_eq_or_imp, forall_eq, At, and_true, Nat.zero_add, Nat.reduceAdd, List.set_cons_zero, List.set_cons_succ] at o
  have HP4 := Lib.hid hP4
  have hPl := hP4.1
  clear hP4
  go_wp2_with fail
  go_fit (iSealOk_any hv lv H L g c lk _ _ P M ti a _ hH hS hp hm hE htab (by omega) (by omega) HLs.out); rintro e w2 ⟨rfl, hb2⟩
  replace hF := hF.below hb2
  replace hp := Rows.below hp hb2
  replace hm := Rows.below hm hb2
  replace hE := hE.below hb2
  replace htab := tab_below htab hb2
  replace hH := hH.below hb2
  replace hS := hS.below hb2
  clear o hb2
  have o := hF.own; simp only [World.size_alloc, World.size_drew, World.size_setCell, List.mem_cons, List.not_mem_nil, or_false, forall_eq_or_imp, forall_eq, At, and_true, Nat.zero_add, Nat.reduceAdd, List.set_cons_zero, List.set_cons_succ] at o
  go_wp2_with fail
  go_fit (sSealOk_any hv lv H L g c lk _ _ P M ti _ hH hS hp hm (by omega)); rintro e w3 ⟨rfl, hb3⟩
  replace hF := hF.below hb3
  replace hp := Rows.below hp hb3
  replace hm := Rows.below hm hb3
  replace hE := hE.below hb3
  replace htab := tab_below htab hb3
  replace hH := hH.below hb3
  replace hS := hS.below hb3
  clear o hb3
  have o := hF.own; simp only [World.size_alloc, World.size_drew, World.size_setCell, List.mem_cons, List.not_mem_nil, or_false, forall_eq_or_imp, forall_eq, At, and_true, Nat.zero_add, Nat.reduceAdd, List.set_cons_zero, List.set_cons_succ] at o
  obtain ⟨B, hB⟩ : ∃ B, (lacks H L ti g c lk P M == 0) = B := ⟨_, rfl⟩
  rw [hB]
  cases B with
  | false =>
    go_wp2_with fail
    have cS := sSealOk_any hv lv H L g c lk _ _ P M ti _ hH hS hp hm (by omega)
    rw [hB] at cS
    clear hB
    go_fit cS; rintro e w4 ⟨rfl, hb4⟩
    replace hF := hF.below hb4
    clear hb4 cS
    go_wp2
    go_ret
    exact ⟨rfl, hF.kp⟩
  | true =>
    have HB := Lib.hid hB
    clear hB
    have hly := lyF_bd n1
    obtain ⟨ds, hr, hdl, hdp⟩ := hS.ex
    have HD := Lib.hid hdp
    have HDL := Lib.hid hdl
    have HR := Lib.hid hr
    clear hdl hdp hr
    have m0 : (0 : Int) ≤ (n1 : Int) := by omega
    go_wp2_with fail
    have hb4 := (Below.refl w3.heap.size w3).alloc (Nat.le_refl _) (.cells #[.int .i64 g, .int .i64 c, .slice o1 P.length c1, .int .i64 ((n1 : Int) % 10), .slice none 0 0] 35)
    replace hF := hF.alloc [.int .i64 g, .int .i64 c, .slice o1 P.length c1, .int .i64 ((n1 : Int) % 10), .slice none 0 0] 35
    go_fit (lyRange_any n1 (by omega) _); rintro e w5 ⟨rfl, hb5⟩
    have hb35 := hb4.trans (hb5.mono hb4.size)
    replace hF := hF.below hb5
    have HK5 := Lib.hid hb35
    replace hp := Rows.below hp hb35
    replace hm := Rows.below hm hb35
    replace hE := hE.below hb35
    replace htab := tab_below htab hb35
    replace hH := hH.below hb35
    replace hS := hS.below hb35
    clear o hb4 hb5 hb35
    have o := hF.own; simp only [World.size_alloc, World.size_drew, World.size_setCell, List.mem_cons, List.not_mem_nil, or_false, forall_eq_or_imp, forall_eq, At, and_true, Nat.zero_add, Nat.reduceAdd, List.set_cons_zero, List.set_cons_succ] at o
    obtain ⟨y1, hy1⟩ : ∃ z, lyF n1 = z := ⟨_, rfl⟩
    obtain ⟨y2, hy2⟩ : ∃ z, (n1 : Int) % 9 = z := ⟨_, rfl⟩
    have hy2b : 0 ≤ y2 ∧ y2 ≤ 8 := by omega
    rw [hy1] at hly
    have HY := Lib.hid (show Calls Tryd.prog 29 = Calls Tryd.prog 29 from rfl)
    have hLy := Lib.hid (fun w => (show Calls Tryd.prog 29 #[.int .i64 n1] w fun e w' => e = .returned (.agg #[.int .i64 y1, .int .i64 y2]) ∧ Below w.heap.size w w' from by have := lyRange_any n1 (by omega) w; rwa [hy1, hy2] at this))
    rw [hy1, hy2]
    clear hy1 hy2 HY
    have hOwn : Own 28 ((w5.alloc (.cells #[.int .i64 1] 3)).alloc (.cells #[.int .i64 1, .int .i64 2, .int .i64 y1, .int .i64 y2, .slice (some ⟨w5.heap.size, 0, none⟩) 1 1] 28)) (w5.heap.size + 1) (.slice (some ⟨w5.heap.size + 1, 0, none⟩) 1 1) 5 encS [((1, 2, y1, y2, .slice (some ⟨w5.heap.size, 0, none⟩) 1 1) : SlV)] := by
      have := Own.lit 28 (w5.alloc (.cells #[.int .i64 1] 3)) (w5.heap.size + 1) 5 encS [((1, 2, y1, y2, .slice (some ⟨w5.heap.size, 0, none⟩) 1 1) : SlV)] (fun _ => rfl) (by simp) (by simp)
      simpa [encS] using this
    have hpath : Ints (w5.alloc (.cells #[.int .i64 1] 3)) (.slice (some ⟨w5.heap.size, 0, none⟩) 1 1) [1] := by
      have := (Own.lit 3 w5 0 1 encI [1] (fun _ => rfl) (Nat.zero_le _) (by simp)).rows (fun _ => rfl)
      simpa [encI] using this
    have HO := Lib.hid hOwn
    have HPA := Lib.hid hpath
    have HON := Lib.hid (sls_one HDL.out HD.out)
    have hKw := ((Below.refl w5.heap.size w5).alloc (Nat.le_refl _) (.cells #[.int .i64 1] 3)).alloc (by simp) (.cells #[.int .i64 1, .int .i64 2, .int .i64 y1, .int .i64 y2, .slice (some ⟨w5.heap.size, 0, none⟩) 1 1] 28)
    have HKW := Lib.hid hKw
    clear hOwn hpath hKw
    go_wp2_with (at_builtin; refine wpList_appsZ rfl _ _ 23 rfl 28 (.agg #[.int .i64 0, .int .i64 0, .int .i64 0, .int .i64 0, .slice none 0 0]) 5 56 Tryd.underlying23 infoSl rfl (by decide) (by decide) (w5.heap.size + 1) encS (fun _ => rfl) _ _ rfl HO.out _ ds HON.out rfl ((HR.out.below HK5.out).below HKW.out) (by have := HDL.out; simp only [List.length_cons, List.length_nil]; omega) (by simp) ?_; intro v6 w6 hO6 hg6 hb6 hf6)
    have hQ6 : Below w5.heap.size w5 w6 := HKW.out.trans (hb6.mono (by omega))
    have hb6p : Below (w5.alloc (.cells #[.int .i64 1] 3)).heap.size (w5.alloc (.cells #[.int .i64 1] 3)) w6 := by
      simp only [World.size_alloc]
      exact Below.trans ((Below.refl _ _).alloc (by simp) _) hb6
    have hM6 : Sls w6 v6 ((1, 2, y1, y2, [1]) :: L) := Sls.cons (hO6.rows (fun _ => rfl)) (Rows.below HPA.out hb6p) HDL.out (fun k s hk => by obtain ⟨u, e, i⟩ := HD.out k s hk; exact ⟨u, e, Rows.below (Rows.below i HK5.out) hQ6⟩)
    replace hF := hF.below hQ6
    replace hp := Rows.below hp hQ6
    replace hm := Rows.below hm hQ6
    replace hE := hE.below hQ6
    replace htab := tab_below htab hQ6
    replace hH := hH.below hQ6
    replace hS := hS.below hQ6
    clear hO6 hg6 hb6 hf6 hb6p hQ6 o
    go_fit (hLy.out _); rintro e w7 ⟨rfl, hb7⟩
    replace hM6 := hM6.below hb7
    replace hF := hF.below hb7
    replace hp := Rows.below hp hb7
    replace hm := Rows.below hm hb7
    replace hE := hE.below hb7
    replace htab := tab_below htab hb7
    replace hH := hH.below hb7
    replace hS := hS.below hb7
    clear hb7
    have o := hF.own; simp only [World.size_alloc, World.size_drew, World.size_setCell, List.mem_cons, List.not_mem_nil, or_false, forall_eq_or_imp, forall_eq, At, and_true, Nat.zero_add, Nat.reduceAdd, List.set_cons_zero, List.set_cons_succ] at o
    have hOw2 : Own 41 (w7.alloc (.cells #[.int .i64 3, .int .i64 y1, .int .i64 y2] 41)) w7.heap.size (.slice (some ⟨w7.heap.size, 0, none⟩) 1 1) 3 HoldD.enc [⟨3, y1, y2⟩] := by
      have := Own.lit 41 w7 w7.heap.size 3 HoldD.enc [⟨3, y1, y2⟩] (fun _ => rfl) (Nat.le_refl _) (by simp)
      simpa [HoldD.enc] using this
    have HO2 := Lib.hid hOw2
    have HHr := Lib.hid hH
    have hKw := (Below.refl w7.heap.size w7).alloc (Nat.le_refl _) (.cells #[.int .i64 3, .int .i64 y1, .int .i64 y2] 41)
    have HKW2 := Lib.hid hKw
    clear hOw2 hKw
    go_wp2_with (at_builtin; refine wpList_appsZ rfl _ _ 42 rfl 41 (.agg #[.int .i64 0, .int .i64 0, .int .i64 0]) 3 24 Tryd.underlying42 infoHold rfl (by decide) (by decide) w7.heap.size HoldD.enc (fun _ => rfl) _ _ rfl HO2.out _ H (fun x _ u hu => by simp [HoldD.enc] at hu; rcases hu with rfl | rfl | rfl <;> rfl) rfl (HHr.out.below HKW2.out) (by simp only [List.length_cons, List.length_nil]; omega) (by simp) ?_; intro v8 w8 hO8 hg8 hb8 hf8; have hQ8 : Below w7.heap.size w7 w8 := HKW2.out.trans hb8; have hH8 := hO8.rows (fun _ => rfl); clear hO8 hg8 hb8 hf8; replace hF := hF.below hQ8; clear o; have o := hF.own; simp only [World.size_alloc, World.size_drew, World.size_setCell, List.mem_cons, List.not_mem_nil, or_false, forall_eq_or_imp, forall_eq, At, and_true, Nat.zero_add, Nat.reduceAdd, List.set_cons_zero, List.set_cons_succ] at o)
    replace hp := Rows.below hp hQ8
    replace hm := Rows.below hm hQ8
    replace hE := hE.below hQ8
    replace htab := tab_below htab hQ8
    replace hH := hH.below hQ8
    replace hS := hS.below hQ8
    replace hM6 := hM6.below hQ8
    clear hQ8
    have HSm : ∀ s ∈ (((1, 2, y1, y2, [1]) : Sl) :: L), SmS s := fun s hs => by
      rcases List.mem_cons.1 hs with rfl | hs
      · exact ⟨⟨by show (-1000000 : Int) ≤ 1; omega, by show (1 : Int) ≤ 1000000; omega⟩, ⟨by show (-1000000 : Int) ≤ 2; omega, by show (2 : Int) ≤ 1000000; omega⟩, ⟨by show (-1000000 : Int) ≤ y1; omega, by show y1 ≤ 1000000; omega⟩, ⟨by show (-1000000 : Int) ≤ y2; omega, by show y2 ≤ 1000000; omega⟩, by simp, fun x hx => by simp at hx; omega⟩
      · exact HLs.out s hs
    have cA := iSealOk_any v8 v6 ([⟨3, y1, y2⟩] ++ H) ((1, 2, y1, y2, [1]) :: L) g c lk _ _ P M ti a _ hH8 hM6 hp hm hE htab (by omega) (by simp only [List.length_cons]; omega) HSm
    rw [lacks_more HB.out (fun x hx => List.mem_append_right _ hx) (fun s hs => List.mem_cons_of_mem _ hs)] at cA
    have CA := Lib.hid cA
    clear cA HSm
    go_fit CA.out; rintro e w9 ⟨rfl, hb9⟩
    replace hF := hF.below hb9
    replace hp := Rows.below hp hb9
    replace hm := Rows.below hm hb9
    replace hE := hE.below hb9
    replace htab := tab_below htab hb9
    replace hH := hH.below hb9
    replace hS := hS.below hb9
    clear o hb9
    have o := hF.own; simp only [World.size_alloc, World.size_drew, World.size_setCell, List.mem_cons, List.not_mem_nil, or_false, forall_eq_or_imp, forall_eq, At, and_true, Nat.zero_add, Nat.reduceAdd, List.set_cons_zero, List.set_cons_succ] at o
    have cB := iSealOk_any hv lv H L g c ((n1 : Int) % 10) _ (.slice none 0 0) P [] ti a _ hH hS hp (ints_nil w9 none 0 (by omega)) hE htab (by omega) (by omega) HLs.out
    rw [lacks_like HB.out (by unfold Bts; omega)] at cB
    have CB := Lib.hid cB
    clear cB hM6 hH8
    go_wp2_with fail
    go_fit CB.out; rintro e w10 ⟨rfl, hb10⟩
    replace hF := hF.below hb10
    clear hb10
    go_wp2
    go_ret
    exact ⟨rfl, hF.kp⟩
end Go.Proofs.YtiocomefkckbfaaDoor
