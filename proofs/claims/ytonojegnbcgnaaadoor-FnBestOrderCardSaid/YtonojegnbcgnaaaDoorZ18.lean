/- FnBestOrder: the walk. -/
import Derived.Test.YtonojegnbcgnaaaDoorZ17
set_option linter.unusedSimpArgs false
set_option linter.unusedVariables false
namespace Go.Proofs.YtonojegnbcgnaaaDoor
open Go.RowKit

theorem rev_step {α : Type} {ds : List α} {n i : Nat} {d : α} (hn : ds.length = n) (hi : 0 < i) (hin : i ≤ n) (hd : ds[i - 1]? = some d) : ds.reverse.take (n - i) ++ [d] = ds.reverse.take (n - (i - 1)) := by
  have h : ds.reverse[n - i]? = some d := by
    rw [List.getElem?_reverse (by omega), hn, show n - 1 - (n - i) = i - 1 by omega]; exact hd
  rw [show n - (i - 1) = n - i + 1 by omega, take_succ' h]
theorem rev_rts {w : World} {v : Value} {ds : List RtD} {L : List Rt} (hr : Rows w v 5 encRt ds.reverse) (hl : ds.length = L.length) (hp : ∀ (k : Nat) (s : Rt), L[k]? = some s → ∃ d : RtD, ds[k]? = some d ∧ shRt.rd w d s) : Rts w v L.reverse :=
  ⟨ds.reverse, hr, by simp [hl], fun k s hk => by
    have hkl : k < L.length := by have := (List.getElem?_eq_some_iff.1 hk).1; simpa using this
    rw [List.getElem?_reverse hkl] at hk
    rw [List.getElem?_reverse (by omega), hl]
    exact hp _ s hk⟩
set_option maxRecDepth 100000 in
set_option maxHeartbeats 8000000 in
theorem FnBestOrder_walk (a0 : Option Addr) (n0 c0 : Nat) (a : Addr) (w : World) (h0 : Given w (.slice a0 n0 c0)) (hE : EPath w a) :
    Calls Tryd.prog 6 #[.slice a0 n0 c0] w fun e w' => e = .returned (.bool true) ∧ Below w.heap.size w w' := by
  by_cases hn0 : 1048576 < n0
  · have e0 : decide (1048576 < (n0 : Int)) = true := by simp; omega
    go_enter Tryd.func6, Tryd.ntmps6
    go_wp2
    go_ret
    exact ⟨rfl, Below.refl _ _⟩
  have e0 : decide (1048576 < (n0 : Int)) = false := by simp; omega
  have hF := Fb.start w
  go_enter Tryd.func6, Tryd.ntmps6
  go_wp2_with fail
  refine (drawRouteBest_any _ _ h0).mono ?_; rintro e w1 ⟨v, L, rfl, hV, hL5, hSm, hb1⟩
  clear h0
  replace hF := hF.below hb1
  replace hE := hE.below hb1
  skip
  clear hb1
  go_wp2_with fail
  refine (iRouteBest_any v L a w1 hV hE (by omega)).mono ?_; rintro e w2 ⟨rfl, hb2⟩
  replace hF := hF.below hb2
  replace hE := hE.below hb2
  replace hV := hV.below hb2
  skip
  clear hb2
  obtain ⟨N, hN⟩ : ∃ N, bestOf L = N := ⟨_, rfl⟩
  rw [hN]
  have hnn : (N != N) = false := by simp
  have cS := sRouteBest_any v L w2 hV
  rw [hN] at cS
  have CS := Lib.hid cS
  clear cS
  go_wp2_with fail
  refine CS.out.mono ?_; rintro e w3 ⟨rfl, hb3⟩
  replace hF := hF.below hb3
  replace hE := hE.below hb3
  replace hV := hV.below hb3
  skip
  clear hb3 CS
  by_cases hneg : N < 0
  · have d1 : decide (N < 0) = true := decide_eq_true hneg
    have hee : (N == N) = true := by simp
    have cS := sRouteBest_any v L w3 hV
    rw [hN] at cS
    have CS := Lib.hid cS
    clear cS hneg hN
    go_wp2_with fail
    refine CS.out.mono ?_; rintro e w4 ⟨rfl, hb4⟩
    replace hF := hF.below hb4
    clear hb4 CS
    go_wp2
    go_ret
    exact ⟨rfl, hF.kp⟩
  ·
    have d1 : decide (N < 0) = false := decide_eq_false hneg
    have hge : 0 ≤ bestOf L := by omega
    obtain ⟨hok, hl0, hb, hlt9⟩ := best_ge hge
    obtain ⟨m, hm⟩ : ∃ m, bst L (L.length - 1) = m := ⟨_, rfl⟩
    rw [hm] at hb hlt9
    have hNm : N = (m : Int) := by rw [← hN, hb]
    subst hNm
    obtain ⟨ao, n, cap, rfl, hn, hnc, hcap⟩ := GLs.sl hV
    have hmn : m < n := by have := hn.out; omega
    have hn5 : n ≤ 5 := by have := hn.out; omega
    have HOK := Lib.hid hok
    have HG := Lib.hid hge
    have HM := Lib.hid hm
    have HN := Lib.hid hl0
    clear hneg hge hok hl0 hb hlt9 hm hN hL5 hSm
    obtain ⟨ds, hr, hdl, hdp⟩ := hV.ex
    have HR := Lib.hid (show Rows w3 _ 5 encRt ds from hr)
    have HDL : Hid (ds.length = n) := hdl.trans hn.out
    have HDP := Lib.hid hdp
    have HOne := Lib.hid (GLs.one hdl hdp)
    obtain ⟨b1, p1, rfl⟩ := GLs.adr hV (by omega)
    have HV := Lib.hid hV
    have HE := Lib.hid hE
    have HF := Lib.hid hF.kp
    have hO : Own 27 (w3.alloc (.cells #[] 27)) w3.heap.size (.slice (some ⟨w3.heap.size, 0, none⟩) 0 0) 5 encRt [] := Own.made _ _ _ _ _ (Nat.le_refl _)
    have hQ := (Fb.start w3).other (.cells #[] 27)
    clear hr hdl hdp hV hE hF
    go_wp2
    go_loopw [5, 6] (fun s5 s6 wr => ∃ (i : Nat) (es : List RtD), s6 = .int .i64 ((i : Int) - 1) ∧ i ≤ n ∧ Hid (es = ds.reverse.take (n - i)) ∧ Own 27 wr w3.heap.size s5 5 encRt es ∧ Fb w3 wr []) (fun _ s6 _ => (intOf s6 + 1).toNat)
    case atStart => exact ⟨n, [], rfl, Nat.le_refl _, (by show _ = _; simp), hO, hQ⟩
    case round =>
      clear hO hQ
      obtain ⟨i, es, rfl, hi, hes, hO, hQ⟩ := hrel
      by_cases hlt : 0 < i
      · obtain ⟨s, hs⟩ := get_of hn.out (show i - 1 < n by omega)
        obtain ⟨d, hd, hrd⟩ := HDP.out _ s hs
        obtain ⟨df, db, dl, du, dv⟩ := d
        obtain ⟨u1, r1, rfl, -⟩ := hrd.2.1.ex
        obtain ⟨u2, r2, rfl, -⟩ := hrd.2.2.ex
        have HO1 := Lib.hid (shRt.one hrd)
        have hes2 : Hid (es ++ [⟨df, db, dl, .slice u1 s.2.2.2.1.length r1, .slice u2 s.2.2.2.2.length r2⟩] = ds.reverse.take (n - (i - 1))) := by
          show _ = _
          rw [hes.out]; exact rev_step HDL.out hlt hi hd
        have hel : es.length ≤ 10 := by rw [hes.out, List.length_take, List.length_reverse, HDL.out]; omega
        have q0 := hQ.old (Rows.get HR.out hd (j := 0) rfl)
        have q1 := hQ.old (Rows.get HR.out hd (j := 1) rfl)
        have q2 := hQ.old (Rows.get HR.out hd (j := 2) rfl)
        have q3 := hQ.old (Rows.get HR.out hd (j := 3) rfl)
        have q4 := hQ.old (Rows.get HR.out hd (j := 4) rfl)
        dsimp only [Nat.add_zero] at q0 q1 q2 q3 q4
        have hszB := hQ.kp.size
        have d1 : ((i : Int) - 1).toNat = i - 1 := by omega
        have d2 : IntKind.i64.wrap ((i : Int) - 1) = (i : Int) - 1 := IntWalk.i64_in _ (by omega)
        have d3 : (1 : Int) ≤ (i : Int) := by omega
        have d4 : (i : Int) - 1 < (n : Int) := by omega
        have d5 : (0 : Int) ≤ (i : Int) - 1 := by omega
        clear hs hd hrd
        go_wp2_with ((at_builtin; refine wpList_app rfl _ _ 34 rfl 27 (.agg #[.int .i64 0, .int .i64 0, .slice none 0 0, .int .i64 0, .slice none 0 0]) 5 72 Tryd.underlying34 infoRt rfl (by decide) (by decide) w3.heap.size encRt _ _ rfl (hO.alloc _) ((⟨df, db, dl, .slice u1 s.2.2.2.1.length r1, .slice u2 s.2.2.2.2.length r2⟩ : RtD)) ⟨_, 0, none⟩ 1 rfl rfl (cells_new _ _ _) (by simp [encRt, Value.oneCell']) (by first | omega | (simp only [List.length_append, List.length_cons, List.length_nil]; omega)) (by simp only [World.size_alloc]; omega) ?_; intro v' wx hO1 hg1 hb1 hf1; (replace hO := hO1; replace hQ := (hQ.other _).belowB hb1 (Nat.le_refl _) (by simp); clear hO1 hg1 hb1 hf1)))
        go_roundw
        case rel => exact ⟨i - 1, _, by go_num, by omega, hes2, hO, hQ⟩
        case measure => simp [intOf]; omega
      · have hi0 : i = 0 := by omega
        subst hi0
        have hes1 : Hid (es = ds.reverse) := by
          show _ = _
          rw [hes.out, Nat.sub_zero, List.take_of_length_le (by rw [List.length_reverse, HDL.out]; exact Nat.le_refl _)]
        clear hes
        obtain ⟨ub, uc, rfl⟩ : ∃ g9 c9, u5 = .slice (some ⟨g9, 0, none⟩) n c9 := by
          obtain ⟨_, ⟨rfl, h2⟩ | ⟨g, cap, cur, rfl, _, _, h4, h5, _⟩⟩ := hO
          · rw [hes1.out, List.length_reverse, HDL.out] at h2; omega
          · rw [hes1.out, List.length_reverse, HDL.out]; exact ⟨g, cap, rfl⟩
        go_upto_region 12 with (fail)
        obtain ⟨wb, hwb⟩ : ∃ wb : World, wb = wr := ⟨_, rfl⟩
        rw [← hwb] at hO hQ ⊢
        clear hwb
        have hKb := hQ.kp
        have hO2 := hO.rows (fun _ => rfl)
        rw [hes1.out] at hO2
        have HBk := Lib.hid (rev_rts hO2 (HDL.out.trans hn.out.symm) (fun k s hk => by obtain ⟨d, e, i⟩ := HDP.out k s hk; exact ⟨d, e, Sh.below i hKb⟩))
        have HKb := Lib.hid hKb
        have HRb := Lib.hid (HR.out.below hKb)
        have HDPb := Lib.hid (fun (k : Nat) (s : Rt) (hk : L[k]? = some s) => (show ∃ d : RtD, ds[k]? = some d ∧ shRt.rd wb d s from by obtain ⟨d, e, i⟩ := HDP.out k s hk; exact ⟨d, e, Sh.below i hKb⟩))
        clear hO hO2 hQ hKb
        obtain ⟨t, ht⟩ := get_of hn.out hmn
        have HTt := Lib.hid ht
        obtain ⟨d, hd, hrd⟩ := HDPb.out _ t ht
        obtain ⟨g, c, l2, P2, M2⟩ := t
        obtain ⟨df, db, dl, du, dv⟩ := d
        obtain ⟨⟨r1, r2, r3⟩, i3, i4⟩ := hrd
        dsimp only at r1 r2 r3 i3 i4
        subst r1; subst r2; subst r3
        obtain ⟨a3, m3, c3, rfl, _⟩ := Ints.sl i3
        obtain ⟨a4, m4, c4, rfl, _⟩ := Ints.sl i4
        have hrd : shRt.rd wb ⟨df, db, dl, .slice a3 m3 c3, .slice a4 m4 c4⟩ (df, db, dl, P2, M2) := ⟨⟨rfl, rfl, rfl⟩, i3, i4⟩
        have HRD := Lib.hid hrd
        have HO1 := Lib.hid (shRt.one hrd)
        have q0 := Rows.get HRb.out hd (j := 0) rfl
        have q1 := Rows.get HRb.out hd (j := 1) rfl
        have q2 := Rows.get HRb.out hd (j := 2) rfl
        have q3 := Rows.get HRb.out hd (j := 3) rfl
        have q4 := Rows.get HRb.out hd (j := 4) rfl
        dsimp only [Nat.add_zero] at q0 q1 q2 q3 q4
        have HC := Lib.hid (⟨q0, q1, q2, q3, q4⟩ : wb.cell? ⟨b1, p1 + m * 5, none⟩ = some (.int .i64 df) ∧ wb.cell? ⟨b1, p1 + m * 5 + 1, none⟩ = some (.int .i64 db) ∧ wb.cell? ⟨b1, p1 + m * 5 + 2, none⟩ = some (.slice a3 m3 c3) ∧ wb.cell? ⟨b1, p1 + m * 5 + 3, none⟩ = some (.int .i64 dl) ∧ wb.cell? ⟨b1, p1 + m * 5 + 4, none⟩ = some (.slice a4 m4 c4))
        clear i3 i4 hrd hd ht
        have hQ := Fb.start wb
        have tok2 : True := trivial
        have tok3 : True := trivial
        have gm : (m : Int) < (n : Int) := by omega
        go_cut [7] (fun s7 wx => ∃ u : Value, s7 = u ∧ Rts wx u (L ++ [(df, db, dl, P2, M2)]) ∧ Fb wb wx [])
        case first =>
          go_region_held3 (fun w' => w'.cell? ⟨b1, p1 + m * 5, none⟩ = some (.int .i64 df) ∧ w'.cell? ⟨b1, p1 + m * 5 + 1, none⟩ = some (.int .i64 db) ∧ w'.cell? ⟨b1, p1 + m * 5 + 2, none⟩ = some (.slice a3 m3 c3) ∧ w'.cell? ⟨b1, p1 + m * 5 + 3, none⟩ = some (.int .i64 dl) ∧ w'.cell? ⟨b1, p1 + m * 5 + 4, none⟩ = some (.slice a4 m4 c4))
            (first | (with_reducible assumption) | (refine ⟨?_, ?_, ?_, ?_, ?_⟩; exact Fb.old (w := wb) (L := []) (by repeat (first | (with_reducible assumption) | (with_reducible apply Fb.drew) | (with_reducible apply Fb.other) | (with_reducible apply Fb.setAway) | (intro q hq; cases hq) | (have := hQ.kp.size; (try simp only [World.size_alloc, World.size_drew, World.size_setCell]); (try dsimp only); omega))) HC.out.1; exact Fb.old (w := wb) (L := []) (by repeat (first | (with_reducible assumption) | (with_reducible apply Fb.drew) | (with_reducible apply Fb.other) | (with_reducible apply Fb.setAway) | (intro q hq; cases hq) | (have := hQ.kp.size; (try simp only [World.size_alloc, World.size_drew, World.size_setCell]); (try dsimp only); omega))) HC.out.2.1; exact Fb.old (w := wb) (L := []) (by repeat (first | (with_reducible assumption) | (with_reducible apply Fb.drew) | (with_reducible apply Fb.other) | (with_reducible apply Fb.setAway) | (intro q hq; cases hq) | (have := hQ.kp.size; (try simp only [World.size_alloc, World.size_drew, World.size_setCell]); (try dsimp only); omega))) HC.out.2.2.1; exact Fb.old (w := wb) (L := []) (by repeat (first | (with_reducible assumption) | (with_reducible apply Fb.drew) | (with_reducible apply Fb.other) | (with_reducible apply Fb.setAway) | (intro q hq; cases hq) | (have := hQ.kp.size; (try simp only [World.size_alloc, World.size_drew, World.size_setCell]); (try dsimp only); omega))) HC.out.2.2.2.1; exact Fb.old (w := wb) (L := []) (by repeat (first | (with_reducible assumption) | (with_reducible apply Fb.drew) | (with_reducible apply Fb.other) | (with_reducible apply Fb.setAway) | (intro q hq; cases hq) | (have := hQ.kp.size; (try simp only [World.size_alloc, World.size_drew, World.size_setCell]); (try dsimp only); omega))) HC.out.2.2.2.2))
            (first
              | (clear tok2; refine step_appsZ (by rfl) _ _ 34 (by rfl) 27 (.agg #[.int .i64 0, .int .i64 0, .slice none 0 0, .int .i64 0, .slice none 0 0]) 5 72 Tryd.underlying34 infoRt rfl (by decide) (by decide) wb.heap.size encRt (fun _ => rfl) (.slice (some ⟨_, 0, none⟩) 0 0) [] (by rfl) (by repeat (first | (with_reducible assumption) | (with_reducible apply Own.drew) | exact Own.madeS _ _ _ _ _ _ (by simp) (Below.size (Fb.kp (W := wb) (L := []) (by repeat (first | (with_reducible assumption) | (with_reducible apply Fb.drew) | (with_reducible apply Fb.other) | (with_reducible apply Fb.setAway) | (intro q hq; cases hq) | (have := hQ.kp.size; (try simp only [World.size_alloc, World.size_drew, World.size_setCell]); (try dsimp only); omega))))) | apply Own.alloc)) (.slice (some ⟨b1, p1, none⟩) n cap) ds HOne.out (by rfl) (HRb.out.below (Fb.kp (W := wb) (L := []) (by repeat (first | (with_reducible assumption) | (with_reducible apply Fb.drew) | (with_reducible apply Fb.other) | (with_reducible apply Fb.setAway) | (intro q hq; cases hq) | (have := hQ.kp.size; (try simp only [World.size_alloc, World.size_drew, World.size_setCell]); (try dsimp only); omega))))) (by have := HDL.out; have := hn.out; simp; omega) (Below.size (Fb.kp (W := wb) (L := []) (by repeat (first | (with_reducible assumption) | (with_reducible apply Fb.drew) | (with_reducible apply Fb.other) | (with_reducible apply Fb.setAway) | (intro q hq; cases hq) | (have := hQ.kp.size; (try simp only [World.size_alloc, World.size_drew, World.size_setCell]); (try dsimp only); omega))))) ?_; intro v8 w8 hO8 hg8 hb8 hf8; rw [List.nil_append] at hO8; replace hQ := Fb.belowB (W := wb) (by repeat (first | (with_reducible assumption) | (with_reducible apply Fb.drew) | (with_reducible apply Fb.other) | (with_reducible apply Fb.setAway) | (intro q hq; cases hq) | (have := hQ.kp.size; (try simp only [World.size_alloc, World.size_drew, World.size_setCell]); (try dsimp only); omega))) hb8 (Nat.le_refl _) (by simp); obtain ⟨g8, e8, h8⟩ := frsh_some hf8; have hF8 := Fb.grown (W := wb) (by repeat (first | (with_reducible exact Fb.start _) | (with_reducible assumption) | (with_reducible apply Fb.drew) | (with_reducible apply Fb.alloc_5) | (with_reducible apply Fb.other))) hg8 (by (try simp only [World.size_alloc, World.size_drew]); omega) (by intro p hp; simp only [List.mem_cons, List.not_mem_nil, or_false] at hp <;> (subst hp; (try simp only [World.size_alloc, World.size_drew]); (try dsimp only); omega)); have s8 := hb8.size; (try simp only [World.size_alloc, World.size_drew] at s8); (try simp only [World.size_alloc, World.size_drew] at hF8); clear hg8 hb8 hf8)
              | (clear tok3; refine step_app1 (by rfl) _ _ 34 (by rfl) 27 (.agg #[.int .i64 0, .int .i64 0, .slice none 0 0, .int .i64 0, .slice none 0 0]) 5 72 Tryd.underlying34 infoRt rfl (by decide) (by decide) wb.heap.size encRt v8 ds (by rfl) (by repeat (first | (with_reducible assumption) | (with_reducible apply Own.drew) | (with_reducible apply Own.alloc))) (⟨df, db, dl, .slice a3 m3 c3, .slice a4 m4 c4⟩ : RtD) ⟨_, 0, none⟩ 1 (by rfl) rfl (by first | exact cells_newD _ _ _ | exact cells_new _ _ _ | exact cellsR (by repeat (first | (with_reducible exact Fb.start _) | (with_reducible assumption) | (with_reducible apply Fb.drew) | (with_reducible apply Fb.alloc_5) | (with_reducible apply Fb.other)))) HO1.out (by have := HDL.out; have := hn.out; omega) (Below.size (Fb.kp (W := wb) (L := []) (by repeat (first | (with_reducible assumption) | (with_reducible apply Fb.drew) | (with_reducible apply Fb.other) | (with_reducible apply Fb.setAway) | (intro q hq; cases hq) | (have := hQ.kp.size; (try simp only [World.size_alloc, World.size_drew, World.size_setCell]); (try dsimp only); omega))))) ?_; intro v9 w9 hO9 hg9 hb9 hf9; replace hQ := Fb.belowB (W := wb) (L := []) (by repeat (first | (with_reducible assumption) | (with_reducible apply Fb.drew) | (with_reducible apply Fb.other) | (with_reducible apply Fb.setAway) | (intro q hq; cases hq) | (have := hQ.kp.size; (try simp only [World.size_alloc, World.size_drew, World.size_setCell]); (try dsimp only); omega))) hb9 (Nat.le_refl _) (by simp); clear hF8; have hR9 : Rts w9 v9 (L ++ [(df, db, dl, P2, M2)]) := GLs.app (hO9.rows (fun _ => rfl)) (HDL.out.trans hn.out.symm) rfl (fun k s hk => by obtain ⟨d, e, i⟩ := HDPb.out k s hk; exact ⟨d, e, Sh.below i hQ.kp⟩) (fun k s hk => by cases k with | zero => simp at hk; subst hk; exact ⟨_, rfl, Sh.below HRD.out hQ.kp⟩ | succ k => simp at hk); clear hO9 hg9 hb9 hf9))
          all_goals
            go_wp2_with fail
            go_meet
            case rel => exact ⟨_, rfl, hR9, hQ⟩
        case rest =>
          obtain ⟨v7, rfl, hR7, hFb⟩ := hcut
          clear q0 q1 q2 q3 q4 hQ tok2 tok3
          obtain ⟨we, hwe⟩ : ∃ we : World, we = wc := ⟨_, rfl⟩
          rw [← hwe] at hFb hR7 ⊢
          clear hwe
          have hbr := best_rev HG.out
          have hbg := best_ge hbr.1
          obtain ⟨mb, hmb⟩ : ∃ mb, bst L.reverse (L.reverse.length - 1) = mb := ⟨_, rfl⟩
          rw [hmb] at hbr hbg
          have hmbn : mb < n := by have := hbg.2.2.2; rw [List.length_reverse, hn.out] at this; exact this
          obtain ⟨s, hs⟩ := get_of (show L.reverse.length = n by rw [List.length_reverse]; exact hn.out) hmbn
          have hst : s = (df, db, dl, P2, M2) := by
            have := hbr.2
            rw [rat_of hs, HM.out, rat_of HTt.out] at this
            exact this
          subst hst
          have HBw := HBk.out.below hFb.kp
          obtain ⟨a5, m5, c5, a6, m6, c6, e0, e1, e2, e3, e4, i5, i6⟩ := Rts.at HBw hs
          obtain ⟨b3, b4⟩ := HRD.out.2
          dsimp only at b3 b4
          have KE := HKb.out.trans (hFb.kp.mono HKb.out.size)
          simp only [Nat.zero_add] at e0 e1 e2 e3 e4
          have cB1 := Lib.hid (fun z : Cl we.heap.size we => (show Calls Tryd.prog 16 #[.slice (some ⟨ub, 0, none⟩) n uc] z.W fun e w' => e = .returned (.int .i64 (mb : Int)) ∧ Below z.W.heap.size z.W w' from by
            have := iRouteBest_any _ L.reverse a z.W (HBw.below z.below) (HE.out.below (KE.trans (z.below.mono KE.size))) (by rw [List.length_reverse]; have := hn.out; omega)
            rwa [hbg.2.2.1] at this))
          have cB2 := Lib.hid (fun z : Cl we.heap.size we => (show Calls Tryd.prog 16 #[u7] z.W fun e w' => e = .returned (.int .i64 (m : Int)) ∧ Below z.W.heap.size z.W w' from by
            have := iRouteBest_any _ (L ++ [(df, db, dl, P2, M2)]) a z.W (hR7.below z.below) (HE.out.below (KE.trans (z.below.mono KE.size))) (by simp; have := hn.out; omega)
            rwa [best_snoc HG.out (HOK.out _ (List.mem_of_getElem? HTt.out)), HM.out, rat_of HTt.out, rtS_self, if_neg (by omega)] at this))
          have cL := Lib.hid (fun z : Cl we.heap.size we => (show Calls Tryd.prog 14 #[.agg #[.int .i64 df, .int .i64 db, .slice a5 m5 c5, .int .i64 dl, .slice a6 m6 c6], .agg #[.int .i64 df, .int .i64 db, .slice a3 m3 c3, .int .i64 dl, .slice a4 m4 c4]] z.W fun e w' => e = .returned (.bool true) ∧ Below z.W.heap.size z.W w' from by
            have := lyRoute_any df db dl _ _ P2 M2 df db dl _ _ P2 M2 z.W (Rows.below i5 z.below) (Rows.below i6 z.below) (Rows.below b3 (hFb.kp.trans (z.below.mono hFb.kp.size))) (Rows.below b4 (hFb.kp.trans (z.below.mono hFb.kp.size)))
            rwa [show decide (SameR df db dl P2 M2 df db dl P2 M2) = true from decide_eq_true ⟨⟨rfl, rfl⟩, rfl, rfl, rfl⟩] at this))
          have x0 := fun z : Cl we.heap.size we => z.cell e0
          have x1 := fun z : Cl we.heap.size we => z.cell e1
          have x2 := fun z : Cl we.heap.size we => z.cell e2
          have x3 := fun z : Cl we.heap.size we => z.cell e3
          have x4 := fun z : Cl we.heap.size we => z.cell e4
          have y0 := fun z : Cl we.heap.size we => Cl.old hFb z HC.out.1
          have y1 := fun z : Cl we.heap.size we => Cl.old hFb z HC.out.2.1
          have y2 := fun z : Cl we.heap.size we => Cl.old hFb z HC.out.2.2.1
          have y3 := fun z : Cl we.heap.size we => Cl.old hFb z HC.out.2.2.2.1
          have y4 := fun z : Cl we.heap.size we => Cl.old hFb z HC.out.2.2.2.2
          have dmm : ((m : Int) == (m : Int)) = true := by simp
          have gmb : (mb : Int) < (n : Int) := by omega
          clear e0 e1 e2 e3 e4 i5 i6 b3 b4 hbr hbg hmb hs HBw hR7
          go_wp2
          first | refine wp_region_new (by kernel_rfl) (by kernel_rfl) ?_ | refine wp_region_lex ?_
          repeat (any_goals (first | go_big_quiet_step ((first | (go_at_call 14; with_reducible exact Calls.cl (cL.out _)) | (go_at_call 16; with_reducible exact Calls.cl (cB1.out _)) | (go_at_call 16; with_reducible exact Calls.cl (cB2.out _)))) | (refine wpQuiet_step (fun K hK => ?_); go_simp; split <;> (rename_i hg; refine hK _ ?_; clear hK K; simp only [hg, decide_true, decide_false]))))
          all_goals (refine wpQuiet_nil ?_; intro x)
          go_wp2
          go_ret
          exact ⟨rfl, HF.out.trans ((KE.trans (x.below.mono KE.size)).mono HF.out.size)⟩
end Go.Proofs.YtonojegnbcgnaaaDoor
