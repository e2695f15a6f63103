/- Laws on finding: FnFind, FnFindRange. -/
import Derived.Test.YtbhenfegklgkoaaTl
set_option linter.unusedSimpArgs false
set_option linter.unusedVariables false
namespace Go.Proofs.Ytbhenfegklgkoaa
open Go.RowKit

theorem drawTableFind_any (v0 : Value) (w : World) (h : Given w v0) :
    Calls Try.prog 18 #[v0] w fun e w' => ∃ (v : Value) (T : List Ent) (a : Int), e = .returned (.tuple #[v, .int .i64 a]) ∧ Tb w' v T ∧ T.length ≤ 20 ∧ 0 ≤ a ∧ a ≤ 511 ∧ Below w.heap.size w w' := by
  go_enter Try.func18, Try.ntmps18
  go_wp2_with fail
  refine (open_any v0 _ h).mono ?_; rintro e w1 ⟨rfl, hR, hb1⟩
  have hlt := hR.lt
  clear h
  go_wp2_with fail
  refine (l91Table_any _ 0 _ hR (by omega)).mono ?_; rintro e w2 ⟨v, T, rfl, hO, hne, hT, ⟨k2, hk2, hR2⟩, hK2⟩
  have hs2 := hK2.size
  clear hne
  go_wp2_with fail
  refine (pick_any _ _ _ _ hR2 (by omega) (by omega) (by omega)).mono ?_; rintro e w3 ⟨v3, rfl, u3, l3, hR3, hK3⟩
  go_wp2_with fail
  refine (pick_any _ _ _ _ hR3 (by omega) (by omega) (by omega)).mono ?_; rintro e w4 ⟨v4, rfl, u4, l4, hR4, hK4⟩
  have hq0 : 0 ≤ v4 / 39 := by omega
  have hq1 : v4 / 39 ≤ 1 := by omega
  have hV := ((hO.kp hK3 hlt).kp hK4 hlt).tb
  have hB : Below w.heap.size w w4 := hb1.trans (((hK2.trans hK3).trans hK4).below (Nat.le_refl _) hb1.size)
  clear hO hK2 hK3 hK4 hR hR2 hR3 hR4 hb1
  go_wp2
  go_ret2
  exact ⟨v, T, _, rfl, hV, hT, by omega, by omega, hB⟩
theorem up_anc {a k j : Nat} (h1 : k ≤ j) (h2 : j ≤ 8) : up a k = up a j / 2 ^ (j - k) := by
  unfold up
  rw [Nat.div_div_eq_div_mul, ← Nat.pow_add, show 8 - j + (j - k) = 8 - k by omega]
theorem in_iff {a : Nat} (ha : a < 256) {x y : Ent} (hx : EP x) (hy : EP y) (cx : covE a x) (cy : covE a y) (hne : ecmp x y ≠ 0) : RIn y.1 y.2.1 x.1 x.2.1 ↔ x.2.1 < y.2.1 := by
  have ex := (cov_eid ha hx).1 cx
  have ey := (cov_eid ha hy).1 cy
  have hne' : eid x ≠ eid y := fun e => hne (eid_inj hx hy e)
  obtain ⟨⟨b0, b8, f0, f1, fm⟩, _⟩ := id hx
  obtain ⟨⟨c0, c8, g0, g1, gm⟩, _⟩ := id hy
  constructor
  · rintro ⟨_, _, h3, _⟩
    refine Int.lt_iff_le_and_ne.2 ⟨h3, fun e => hne' (by rw [← ex, ← ey, e])⟩
  · intro h
    refine ⟨hy.1, hx.1, by omega, ?_⟩
    rw [rok_cov hx.1 g0 g1]
    have e1 := up_anc (a := y.1.toNat) (k := x.2.1.toNat) (j := y.2.1.toNat) (by omega) (by omega)
    have e2 := up_anc (a := a) (k := x.2.1.toNat) (j := y.2.1.toNat) (by omega) (by omega)
    rw [e1, show up y.1.toNat y.2.1.toNat = up a y.2.1.toNat from ey.symm, ← e2]
    exact ex
theorem has_cov {a : Nat} (ha : a < 256) {x : Ent} (hx : EP x) : RHas x.1 x.2.1 (a : Int) ↔ covE a x :=
  ⟨fun h => h.2.2, fun h => ⟨hx.1, ⟨by omega, by omega⟩, h⟩⟩
set_option maxHeartbeats 4000000 in
theorem FnFind_walk (a0 : Option Addr) (n0 c0 : Nat) (w : World) (h0 : Given w (.slice a0 n0 c0)) :
    Calls Try.prog 4 #[.slice a0 n0 c0] w fun e w' => e = .returned (.bool true) ∧ Below w.heap.size w w' := by
  by_cases hn0 : 1048576 < n0
  · have e0 : decide (1048576 < (n0 : Int)) = true := by simp; omega
    go_enter Try.func4, Try.ntmps4
    go_wp2
    go_ret
    exact ⟨rfl, Below.refl _ _⟩
  have e0 : decide (1048576 < (n0 : Int)) = false := by simp; omega
  have hF := Fb.start w
  go_enter Try.func4, Try.ntmps4
  go_wp2_with fail
  refine (drawTableFind_any _ _ h0).mono ?_; rintro e w1 ⟨v, T, a, rfl, hV, hT20, ha0, ha1, hb1⟩
  replace hF := hF.below hb1
  clear hb1 h0
  obtain ⟨N, hN⟩ : ∃ N, tfind T a = N := ⟨_, rfl⟩
  have dNN : (N != N) = false := by simp
  by_cases h1 : TOk T
  · have d1 : decide (TOk T) = true := by simp [h1]
    by_cases h2 : 255 < a
    · have d2 : decide (255 < a) = true := by simp [h2]
      obtain ⟨ao, n, c, rfl, hn⟩ := hV.sl
      clear h1 h2
      go_wp2_with (first | (go_at_call 19; go_must (refine (iTableFind_any _ T _ _ hV.1).mono ?_); rintro e wx ⟨rfl, hbx⟩; replace hF := hF.below hbx; replace hV := hV.below hbx; clear hbx) | (go_at_call 20; go_must (refine (sTableFind_any _ T _ _ hV.1).mono ?_); rintro e wx ⟨rfl, hbx⟩; replace hF := hF.below hbx; replace hV := hV.below hbx; clear hbx) | (go_at_call 17; go_must (refine (sTableOk_any _ T _ hV.1).mono ?_); rintro e wx ⟨rfl, hbx⟩; replace hF := hF.below hbx; replace hV := hV.below hbx; clear hbx))
      go_ret
      exact ⟨by simp, hF.kp⟩
    · have d2 : decide (255 < a) = false := by simp; omega
      obtain ⟨a, rfl⟩ := Int.eq_ofNat_of_zero_le ha0
      have ha : a < 256 := by omega
      have HT := Lib.hid h1
      have HN : Hid (fnd T a = N) := by
        show _ = _; rw [← hN, tfind_yes h1 ⟨by omega, by omega⟩]; rfl
      obtain ⟨n, cap, hn, hnc, hcap, hv'⟩ := hV.1.cases
      have hn12 : n ≤ 12 := by have := h1.2; have := hn.out; omega
      rcases hv' with ⟨hn0, ao, rfl⟩ | ⟨hn0, b0, off, rfl, hc⟩
      · obtain rfl : n = 0 := by omega
        have hz : Hid (N = 0) := by
          show _ = _; rw [← HN.out]
          exact fnd_none h1 ha (fun x hx => by rw [List.length_eq_zero_iff.1 hn.out] at hx; cases hx)
        clear h1 h2
        go_wp2_with (first | (go_at_call 19; go_must (refine (iTableFind_any _ T _ _ hV.1).mono ?_); rintro e wx ⟨rfl, hbx⟩; replace hF := hF.below hbx; replace hV := hV.below hbx; clear hbx) | (go_at_call 20; go_must (refine (sTableFind_any _ T _ _ hV.1).mono ?_); rintro e wx ⟨rfl, hbx⟩; replace hF := hF.below hbx; replace hV := hV.below hbx; clear hbx) | (go_at_call 17; go_must (refine (sTableOk_any _ T _ hV.1).mono ?_); rintro e wx ⟨rfl, hbx⟩; replace hF := hF.below hbx; replace hV := hV.below hbx; clear hbx))
        obtain ⟨wa, rfl⟩ : ∃ wa : World, wa = wx := ⟨_, rfl⟩
        go_loopw [6, 7] (fun s6 s7 wr => s6 = .int .i64 (-1) ∧ s7 = .int .i64 0 ∧ Fb w wr []) (fun _ _ _ => 0)
        case atStart => exact ⟨rfl, rfl, hF⟩
        case round =>
          obtain ⟨rfl, rfl, hF⟩ := hrel
          have hz' := hz.out
          clear hN dNN
          subst hz'
          go_wp2
          go_ret
          exact ⟨rfl, hF.kp⟩
      · clear h1 h2
        go_wp2_with (first | (go_at_call 19; go_must (refine (iTableFind_any _ T _ _ hV.1).mono ?_); rintro e wx ⟨rfl, hbx⟩; replace hF := hF.below hbx; replace hV := hV.below hbx; clear hbx) | (go_at_call 20; go_must (refine (sTableFind_any _ T _ _ hV.1).mono ?_); rintro e wx ⟨rfl, hbx⟩; replace hF := hF.below hbx; replace hV := hV.below hbx; clear hbx) | (go_at_call 17; go_must (refine (sTableOk_any _ T _ hV.1).mono ?_); rintro e wx ⟨rfl, hbx⟩; replace hF := hF.below hbx; replace hV := hV.below hbx; clear hbx))
        obtain ⟨wa, rfl⟩ : ∃ wa : World, wa = wx := ⟨_, rfl⟩
        have HV := Lib.hid hV.1
        have HF := Lib.hid hF
        clear hV hF hc
        go_loopw [6, 7] (fun s6 s7 wr => ∃ (k : Nat) (o : Option Nat), k ≤ n ∧ s6 = bIx o ∧ s7 = .int .i64 k ∧ Hid (Bst T a k o) ∧ Fb wa wr []) (fun _ s7 _ => n - (intOf s7).toNat)
        case atStart => exact ⟨0, none, Nat.zero_le _, rfl, rfl, bst_0 T a, Fb.start wa⟩
        case round =>
          obtain ⟨k, o, hk, rfl, rfl, hb, hF⟩ := hrel
          by_cases hlt : k < n
          · obtain ⟨y, hy⟩ := get_of hn.out hlt
            have c0 := HV.out.get hy (j := 0) rfl
            have c1 := HV.out.get hy (j := 1) rfl
            have HE := Lib.hid (tok_ep HT.out (List.mem_of_getElem? hy))
            have HY := Lib.hid hy
            clear hy
            obtain ⟨yf, yb, yv⟩ := y
            dsimp only [Nat.add_zero] at c0 c1
            have cc0 := fun x : Cl wr.heap.size wr => Cl.old hF x c0
            have cc1 := fun x : Cl wr.heap.size wr => Cl.old hF x c1
            clear c0 c1
            have hcv := Lib.hid (has_cov ha HE.out)
            by_cases hC : RHas yf yb (a : Int)
            · have dC : decide (RHas yf yb (a : Int)) = true := by simp [hC]
              have hRH := Lib.hid (fun w => (show Calls Try.prog 21 #[.agg #[.int .i64 yf, .int .i64 yb], .int .i64 (a : Int)] w fun e w' => e = .returned (.bool true) ∧ Below w.heap.size w w' from by have := iRangeHas_any yf yb a w; rw [dC] at this; exact this))
              have HC := Lib.hid (hcv.out.1 hC)
              clear hC
              cases o with
              | none =>
                have hb2 := Lib.hid (bst_first hb.out HY.out HC.out)
                simp only [bIx]
                go_wp2
                first | refine wp_region_new (by kernel_rfl) (by kernel_rfl) ?_ | refine wp_region_lex ?_
                repeat (any_goals (first | go_big_quiet_step ((first | (go_at_call 21; exact Calls.cl (hRH.out _)) | (go_at_call 22; exact Calls.cl (iRangeIn_any _ _ _ _ _)))) | (refine wpQuiet_step (fun K hK => ?_); go_simp; split <;> (rename_i hg; refine hK _ ?_; clear hK K; simp only [hg, decide_true, decide_false]))))
                all_goals (refine wpQuiet_nil ?_; intro x)
                go_wp2
                go_roundw
                case rel => exact ⟨k + 1, some k, by omega, rfl, by go_num, hb2, hF.cl x⟩
                case measure => simp [intOf]; omega
              | some i =>
                obtain ⟨hik, z0, hz0, hcz, -⟩ := hb.out.yes i rfl
                have HZ := Lib.hid hz0
                have p0 := HV.out.get hz0 (j := 0) rfl
                have p1 := HV.out.get hz0 (j := 1) rfl
                have HEz := Lib.hid (tok_ep HT.out (List.mem_of_getElem? hz0))
                have hrin : Hid (RIn yf yb z0.1 z0.2.1 ↔ z0.2.1 < yb) := in_iff ha HEz.out HE.out hcz HC.out (srt_ne (tok_srt HT.out) hz0 HY.out (by omega))
                clear hz0 hcz
                obtain ⟨zf, zb, zv⟩ := z0
                dsimp only [Nat.add_zero] at p0 p1 hrin
                have pp0 := fun x : Cl wr.heap.size wr => Cl.old hF x p0
                have pp1 := fun x : Cl wr.heap.size wr => Cl.old hF x p1
                clear p0 p1
                have hin : i < n := by omega
                have dneg : decide ((i : Int) < 0) = false := decide_eq_false (by omega)
                simp only [bIx]
                by_cases hbb : zb < yb
                · have dB : decide (RIn yf yb zf zb) = true := decide_eq_true (hrin.out.2 hbb)
                  have hb2 := Lib.hid (bst_more hb.out HZ.out HY.out HC.out hbb)
                  clear hbb
                  go_wp2
                  first | refine wp_region_new (by kernel_rfl) (by kernel_rfl) ?_ | refine wp_region_lex ?_
                  repeat (any_goals (first | go_big_quiet_step ((first | (go_at_call 21; exact Calls.cl (hRH.out _)) | (go_at_call 22; exact Calls.cl (iRangeIn_any _ _ _ _ _)))) | (refine wpQuiet_step (fun K hK => ?_); go_simp; split <;> (rename_i hg; refine hK _ ?_; clear hK K; simp only [hg, decide_true, decide_false]))))
                  all_goals (refine wpQuiet_nil ?_; intro x)
                  go_wp2
                  go_roundw
                  case rel => exact ⟨k + 1, some k, by omega, rfl, by go_num, hb2, hF.cl x⟩
                  case measure => simp [intOf]; omega
                · have dB : decide (RIn yf yb zf zb) = false := decide_eq_false (fun g => hbb (hrin.out.1 g))
                  have hb2 := Lib.hid (bst_keep hb.out HZ.out HY.out (by dsimp only; omega))
                  clear hbb
                  go_wp2
                  first | refine wp_region_new (by kernel_rfl) (by kernel_rfl) ?_ | refine wp_region_lex ?_
                  repeat (any_goals (first | go_big_quiet_step ((first | (go_at_call 21; exact Calls.cl (hRH.out _)) | (go_at_call 22; exact Calls.cl (iRangeIn_any _ _ _ _ _)))) | (refine wpQuiet_step (fun K hK => ?_); go_simp; split <;> (rename_i hg; refine hK _ ?_; clear hK K; simp only [hg, decide_true, decide_false]))))
                  all_goals (refine wpQuiet_nil ?_; intro x)
                  go_wp2
                  go_roundw
                  case rel => exact ⟨k + 1, some i, by omega, rfl, by go_num, hb2, hF.cl x⟩
                  case measure => simp [intOf]; omega
            · have dC : decide (RHas yf yb (a : Int)) = false := by simp [hC]
              have hRH := Lib.hid (fun w => (show Calls Try.prog 21 #[.agg #[.int .i64 yf, .int .i64 yb], .int .i64 (a : Int)] w fun e w' => e = .returned (.bool false) ∧ Below w.heap.size w w' from by have := iRangeHas_any yf yb a w; rw [dC] at this; exact this))
              have hb2 := Lib.hid (bst_skip hb.out HY.out (fun g => hC (hcv.out.2 g)))
              clear hC
              go_wp2
              first | refine wp_region_new (by kernel_rfl) (by kernel_rfl) ?_ | refine wp_region_lex ?_
              repeat (any_goals (first | go_big_quiet_step ((first | (go_at_call 21; exact Calls.cl (hRH.out _)) | (go_at_call 22; exact Calls.cl (iRangeIn_any _ _ _ _ _)))) | (refine wpQuiet_step (fun K hK => ?_); go_simp; split <;> (rename_i hg; refine hK _ ?_; clear hK K; simp only [hg, decide_true, decide_false]))))
              all_goals (refine wpQuiet_nil ?_; intro x)
              go_wp2
              go_roundw
              case rel => exact ⟨k + 1, o, by omega, rfl, by go_num, hb2, hF.cl x⟩
              case measure => simp [intOf]; omega
          · obtain rfl : k = n := by omega
            have hres : Hid (N = bVia T o) := by show _ = _; rw [← HN.out]; exact bst_fnd HT.out ha (by rw [hn.out]; exact hb.out)
            cases o with
            | none =>
              have hz : Hid (N = 0) := hres.out
              have hz' := hz.out
              clear hN dNN
              subst hz'
              simp only [bIx]
              go_wp2
              go_ret
              exact ⟨rfl, (HF.out.below hF.kp).kp⟩
            | some i =>
              obtain ⟨hik, z0, hz0, -, -⟩ := hb.out.yes i rfl
              have p2 := hF.old (HV.out.get hz0 (j := 2) rfl)
              have hg : Hid (N = z0.2.2) := by show _ = _; rw [hres.out]; show (T.getD i zE).2.2 = _; rw [getD_of hz0]
              clear hz0
              obtain ⟨zf, zb, zv⟩ := z0
              dsimp only at p2 hg
              have hz' := hg.out
              clear hN dNN hg
              subst hz'
              simp only [bIx]
              go_wp2
              go_ret
              exact ⟨by simp, (HF.out.below hF.kp).kp⟩
  · have d1 : decide (TOk T) = false := by simp [h1]
    obtain ⟨ao, n, c, rfl, hn⟩ := hV.sl
    clear h1
    go_wp2_with (first | (go_at_call 19; go_must (refine (iTableFind_any _ T _ _ hV.1).mono ?_); rintro e wx ⟨rfl, hbx⟩; replace hF := hF.below hbx; replace hV := hV.below hbx; clear hbx) | (go_at_call 20; go_must (refine (sTableFind_any _ T _ _ hV.1).mono ?_); rintro e wx ⟨rfl, hbx⟩; replace hF := hF.below hbx; replace hV := hV.below hbx; clear hbx) | (go_at_call 17; go_must (refine (sTableOk_any _ T _ hV.1).mono ?_); rintro e wx ⟨rfl, hbx⟩; replace hF := hF.below hbx; replace hV := hV.below hbx; clear hbx))
    go_ret
    exact ⟨by simp, hF.kp⟩
end Go.Proofs.Ytbhenfegklgkoaa
