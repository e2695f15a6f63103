/- Law on finding in a range: FnFindRange. -/
import Derived.Test.YtbhenfegklgkoaaTm
set_option linter.unusedSimpArgs false
set_option linter.unusedVariables false
namespace Go.Proofs.Ytbhenfegklgkoaa
open Go.RowKit

theorem rok_end {f b : Int} (h : ROk f b) : f + sz b ≤ 256 := by
  obtain ⟨b0, b8, f0, f1, f2⟩ := h
  obtain ⟨b, rfl⟩ := Int.eq_ofNat_of_zero_le b0
  have : b = 0 ∨ b = 1 ∨ b = 2 ∨ b = 3 ∨ b = 4 ∨ b = 5 ∨ b = 6 ∨ b = 7 ∨ b = 8 := by omega
  rcases this with rfl | rfl | rfl | rfl | rfl | rfl | rfl | rfl | rfl <;> simp [sz] at f2 ⊢ <;> omega
theorem alone {T : List Ent} (hT : TOk T) {k : Nat} {x : Ent} (hx : T[k]? = some x) (h : ∀ j y, T[j]? = some y → j ≠ k → ¬ RIn y.1 y.2.1 x.1 x.2.1) {b : Int} (h1 : x.1 ≤ b) (h2 : b < x.1 + sz x.2.1) : tfind T b = x.2.2 := by
  have hE := tok_ep hT (List.mem_of_getElem? hx)
  have he := rok_end hE.1
  obtain ⟨⟨b0, b8, f0, f1, fm⟩, _⟩ := id hE
  rw [tfind_yes hT ⟨by omega, by omega⟩]
  obtain ⟨a, rfl⟩ := Int.eq_ofNat_of_zero_le (show 0 ≤ b by omega)
  have hc : covE a x := ⟨h1, h2⟩
  refine fnd_best hT (by simp; omega) (List.mem_of_getElem? hx) (by simpa using hc) fun y hy hcy => ?_
  obtain ⟨j, hj, e⟩ := List.getElem_of_mem hy
  have hyj : T[j]? = some y := by rw [List.getElem?_eq_getElem hj, e]
  by_cases ejk : j = k
  · subst ejk; rw [hx] at hyj; injection hyj with hyj; rw [hyj]; exact Int.le_refl _
  · refine Int.not_lt.1 fun g => h j y hyj ejk ?_
    exact (in_iff (a := a) (by omega) hE (tok_ep hT hy) hc (by simpa using hcy) (srt_ne (tok_srt hT) hx hyj (by omega))).2 g
set_option maxHeartbeats 4000000 in
theorem FnFindRange_walk (a0 a1 : Option Addr) (n0 c0 n1 c1 : Nat) (w : World) (h0 : Given w (.slice a0 n0 c0)) (_h1 : Given w (.slice a1 n1 c1)) :
    Calls Try.prog 5 #[.slice a0 n0 c0, .slice a1 n1 c1] w fun e w' => e = .returned (.bool true) ∧ Below w.heap.size w w' := by
  by_cases hn0 : 1048576 < n0
  · have e0 : decide (1048576 < (n0 : Int)) = true := by simp; omega
    go_enter Try.func5, Try.ntmps5
    go_wp2
    go_ret
    exact ⟨rfl, Below.refl _ _⟩
  have e0 : decide (1048576 < (n0 : Int)) = false := by simp; omega
  by_cases hn1 : 1048576 < n1
  · have e1 : decide (1048576 < (n1 : Int)) = true := by simp; omega
    go_enter Try.func5, Try.ntmps5
    go_wp2
    go_ret
    exact ⟨rfl, Below.refl _ _⟩
  have e1 : decide (1048576 < (n1 : Int)) = false := by simp; omega
  have hF := Fb.start w
  go_enter Try.func5, Try.ntmps5
  go_wp2_with fail
  refine (drawTableFind_any _ _ h0).mono ?_; rintro e w1 ⟨v, T, a, rfl, hV, hT20, ha0, ha1, hb1⟩
  replace hF := hF.below hb1
  clear hb1 h0
  obtain ⟨N, hN⟩ : ∃ N, tfind T a = N := ⟨_, rfl⟩
  have dNN : (N != N) = false := by simp
  by_cases h1 : TOk T
  · have d1 : decide (TOk T) = true := by simp [h1]
    have HT := Lib.hid h1
    obtain ⟨n, cap, hn, hnc, hcap, hv'⟩ := hV.1.cases
    have hn12 : n ≤ 12 := by have := h1.2; have := hn.out; omega
    clear h1
    rcases hv' with ⟨hn0, ao, rfl⟩ | ⟨hn0, b0, off, rfl, hc⟩
    · obtain rfl : n = 0 := by omega
      go_wp2_with (first | (go_at_call 19; go_must (refine (iTableFind_any _ T _ _ hV.1).mono ?_); rintro e wx ⟨rfl, hbx⟩; replace hF := hF.below hbx; replace hV := hV.below hbx; clear hbx) | (go_at_call 20; go_must (refine (sTableFind_any _ T _ _ hV.1).mono ?_); rintro e wx ⟨rfl, hbx⟩; replace hF := hF.below hbx; replace hV := hV.below hbx; clear hbx) | (go_at_call 17; go_must (refine (sTableOk_any _ T _ hV.1).mono ?_); rintro e wx ⟨rfl, hbx⟩; replace hF := hF.below hbx; replace hV := hV.below hbx; clear hbx))
      go_ret
      exact ⟨by simp, hF.kp⟩
    · have dn : ((n : Int) == 0) = false := by simp; omega
      obtain ⟨q, hq⟩ : ∃ q : Nat, (n1 : Int) % (n : Int) = (q : Int) := ⟨n1 % n, by simp⟩
      have hqn : q < n := by
        have := Int.emod_lt_of_pos (n1 : Int) (show 0 < (n : Int) by omega)
        omega
      have hnz : (n : Int) ≠ 0 := by omega
      obtain ⟨x, hx⟩ := get_of hn.out hqn
      go_wp2_with (first | (go_at_call 19; go_must (refine (iTableFind_any _ T _ _ hV.1).mono ?_); rintro e wx ⟨rfl, hbx⟩; replace hF := hF.below hbx; replace hV := hV.below hbx; clear hbx) | (go_at_call 20; go_must (refine (sTableFind_any _ T _ _ hV.1).mono ?_); rintro e wx ⟨rfl, hbx⟩; replace hF := hF.below hbx; replace hV := hV.below hbx; clear hbx) | (go_at_call 17; go_must (refine (sTableOk_any _ T _ hV.1).mono ?_); rintro e wx ⟨rfl, hbx⟩; replace hF := hF.below hbx; replace hV := hV.below hbx; clear hbx))
      obtain ⟨wa, rfl⟩ : ∃ wa : World, wa = wx := ⟨_, rfl⟩
      have HV := Lib.hid hV
      have HF := Lib.hid hF
      have x0 := Lib.hid (hV.1.get hx (j := 0) rfl)
      have x1 := Lib.hid (hV.1.get hx (j := 1) rfl)
      have x2 := Lib.hid (hV.1.get hx (j := 2) rfl)
      have HE := Lib.hid (tok_ep HT.out (List.mem_of_getElem? hx))
      have HX := Lib.hid hx
      clear hV hF hc hx
      obtain ⟨xf, xb, xv⟩ := x
      dsimp only [Nat.add_zero] at x0 x1 x2
      go_loopw [9] (fun s9 wr => ∃ (k : Nat), k ≤ n ∧ s9 = .int .i64 k ∧ Hid (∀ j y, j < k → T[j]? = some y → j ≠ q → ¬ RIn y.1 y.2.1 xf xb) ∧ Fb wa wr []) (fun s9 _ => n - (intOf s9).toNat)
      case atStart => exact ⟨0, Nat.zero_le _, rfl, (fun j y h => by omega), Fb.start wa⟩
      case round =>
        obtain ⟨k, hk, rfl, hno, hF⟩ := hrel
        by_cases hlt : k < n
        · by_cases hkq : k = q
          · have dk : ((k : Int) != (q : Int)) = false := by simp [hkq]
            have dk' : (k != q) = false := by simp [hkq]
            have hno2 : Hid (∀ j y, j < k + 1 → T[j]? = some y → j ≠ q → ¬ RIn y.1 y.2.1 xf xb) := fun j y hj hy hjq => hno.out j y (by omega) hy hjq
            clear hkq
            go_wp2
            first | refine wp_region_new (by kernel_rfl) (by kernel_rfl) ?_ | refine wp_region_lex ?_
            repeat (any_goals (first | go_big_quiet_step ((fail)) | (refine wpQuiet_step (fun K hK => ?_); go_simp; split <;> (rename_i hg; refine hK _ ?_; clear hK K; simp only [hg, decide_true, decide_false]))))
            all_goals (refine wpQuiet_nil ?_; intro x)
            go_wp2
            go_roundw
            case rel => exact ⟨k + 1, by omega, by go_num, hno2, hF.cl x⟩
            case measure => simp [intOf]; omega
          · have dk : ((k : Int) != (q : Int)) = true := by simp; omega
            have dk' : (k != q) = true := by simp [hkq]
            obtain ⟨y, hy⟩ := get_of hn.out hlt
            have c0 := HV.out.1.get hy (j := 0) rfl
            have c1 := HV.out.1.get hy (j := 1) rfl
            have HY := Lib.hid hy
            clear hy
            obtain ⟨yf, yb, yv⟩ := y
            dsimp only [Nat.add_zero] at c0 c1
            have cc0 := fun x : Cl wr.heap.size wr => Cl.old hF x c0
            have cc1 := fun x : Cl wr.heap.size wr => Cl.old hF x c1
            have xx0 := fun x : Cl wr.heap.size wr => Cl.old hF x x0.out
            have xx1 := fun x : Cl wr.heap.size wr => Cl.old hF x x1.out
            clear c0 c1
            by_cases hR : RIn yf yb xf xb
            · have dR : decide (RIn yf yb xf xb) = true := by simp [hR]
              clear hR hkq
              go_wp2
              first | refine wp_region_new (by kernel_rfl) (by kernel_rfl) ?_ | refine wp_region_lex ?_
              repeat (any_goals (first | go_big_quiet_step (((go_at_call 22; exact Calls.cl (iRangeIn_any _ _ _ _ _)))) | (refine wpQuiet_step (fun K hK => ?_); go_simp; split <;> (rename_i hg; refine hK _ ?_; clear hK K; simp only [hg, decide_true, decide_false]))))
              all_goals (refine wpQuiet_nil ?_; intro x)
              go_wp2
              go_ret
              exact ⟨rfl, (HF.out.below (hF.cl x).kp).kp⟩
            · have dR : decide (RIn yf yb xf xb) = false := by simp [hR]
              have hno2 : Hid (∀ j y, j < k + 1 → T[j]? = some y → j ≠ q → ¬ RIn y.1 y.2.1 xf xb) := fun j y hj hy hjq => by
                by_cases e : j = k
                · subst e; rw [HY.out] at hy; injection hy with hy; rw [← hy]; exact hR
                · exact hno.out j y (by omega) hy hjq
              clear hR hkq
              go_wp2
              first | refine wp_region_new (by kernel_rfl) (by kernel_rfl) ?_ | refine wp_region_lex ?_
              repeat (any_goals (first | go_big_quiet_step (((go_at_call 22; exact Calls.cl (iRangeIn_any _ _ _ _ _)))) | (refine wpQuiet_step (fun K hK => ?_); go_simp; split <;> (rename_i hg; refine hK _ ?_; clear hK K; simp only [hg, decide_true, decide_false]))))
              all_goals (refine wpQuiet_nil ?_; intro x)
              go_wp2
              go_roundw
              case rel => exact ⟨k + 1, by omega, by go_num, hno2, hF.cl x⟩
              case measure => simp [intOf]; omega
        · have hal := Lib.hid (fun b h1 h2 => alone HT.out (b := b) HX.out (fun j y hy hjq => hno.out j y (by have := (List.getElem?_eq_some_iff.1 hy).1; rw [hn.out] at this; omega) hy hjq) h1 h2)
          have hend := rok_end HE.out.1
          have hsp := sz_pos xb
          obtain ⟨⟨e0, e8, e1, e2, _⟩, _⟩ := id HE.out
          dsimp only at hend e0 e8 e1 e2
          have xx0 := hF.old x0.out
          have hRM := Lib.hid (fun w => (show Calls Try.prog 23 #[.agg #[.int .i64 xf, .int .i64 xb]] w fun e w' => e = .returned (.int .i64 (sz xb)) ∧ Below w.heap.size w w' from by have := iRangeMany_any xf xb w; rw [if_pos HE.out.1] at this; exact this))
          clear hno
          go_wp2
          clear xx0
          obtain ⟨wb, rfl⟩ : ∃ wb : World, wb = wr := ⟨_, rfl⟩
          have HFb := Lib.hid hF
          clear hF
          go_loopw [10] (fun s10 wr => ∃ b : Int, xf ≤ b ∧ b ≤ xf + sz xb ∧ s10 = .int .i64 b ∧ Fb wa wr []) (fun s10 _ => (xf + sz xb - intOf s10).toNat)
          case atStart => exact ⟨xf, by omega, by omega, rfl, HFb.out⟩
          case round =>
            obtain ⟨b, hb1, hb2, rfl, hF⟩ := hrel
            have xx0 := fun x : Cl wr.heap.size wr => Cl.old hF x x0.out
            have xx1 := fun x : Cl wr.heap.size wr => Cl.old hF x x1.out
            by_cases hlb : b < xf + sz xb
            · have dl : decide (b < xf + sz xb) = true := by simp [hlb]
              have hfd := hal.out b hb1 hlb
              have HVr : Hid (∀ w', Below wr.heap.size wr w' → Ents w' (.slice (some ⟨b0, off, none⟩) n cap) T) := fun w' h' => (HV.out.1.below hF.kp).below h'
              have xv2 : (xv != xv) = false := by simp
              go_wp2
              first | refine wp_region_new (by kernel_rfl) (by kernel_rfl) ?_ | refine wp_region_lex ?_
              repeat (any_goals (first | go_big_quiet_step (((go_at_call 23; exact Calls.cl (hRM.out _)))) | (refine wpQuiet_step (fun K hK => ?_); go_simp; split <;> (rename_i hg; refine hK _ ?_; clear hK K; simp only [hg, decide_true, decide_false]))))
              all_goals (refine wpQuiet_nil ?_; intro x)
              have hFx := hF.cl x
              have hxb := x.below
              generalize x.W = wq at *
              have xx2 := fun x : Cl wq.heap.size wq => Cl.old hFx x x2.out
              have HVq : Hid (∀ z : Cl wq.heap.size wq, Ents z.W (.slice (some ⟨b0, off, none⟩) n cap) T) := fun z => HVr.out z.W (hxb.trans (z.below.mono hxb.size))
              clear xx0 xx1
              go_wp2
              first | refine wp_region_new (by kernel_rfl) (by kernel_rfl) ?_ | refine wp_region_lex ?_
              repeat (any_goals (first | go_big_quiet_step (((go_at_call 19; exact Calls.cl (iTableFind_any _ T _ _ (HVq.out _))))) | (refine wpQuiet_step (fun K hK => ?_); go_simp; split <;> (rename_i hg; refine hK _ ?_; clear hK K; simp only [hg, decide_true, decide_false]))))
              all_goals (refine wpQuiet_nil ?_; intro x)
              go_wp2
              go_roundw
              case rel => exact ⟨b + 1, by omega, by omega, by go_num, hFx.cl x⟩
              case measure => simp [intOf]; omega
            · have dl : decide (b < xf + sz xb) = false := by simp; omega
              go_wp2
              first | refine wp_region_new (by kernel_rfl) (by kernel_rfl) ?_ | refine wp_region_lex ?_
              repeat (any_goals (first | go_big_quiet_step (((go_at_call 23; exact Calls.cl (hRM.out _)))) | (refine wpQuiet_step (fun K hK => ?_); go_simp; split <;> (rename_i hg; refine hK _ ?_; clear hK K; simp only [hg, decide_true, decide_false]))))
              all_goals (refine wpQuiet_nil ?_; intro x)
              go_wp2
              go_ret
              exact ⟨rfl, (HF.out.below (hF.cl x).kp).kp⟩
  · have d1 : decide (TOk T) = false := by simp [h1]
    obtain ⟨ao, n, c, rfl, hn⟩ := hV.sl
    clear h1
    go_wp2_with (first | (go_at_call 19; go_must (refine (iTableFind_any _ T _ _ hV.1).mono ?_); rintro e wx ⟨rfl, hbx⟩; replace hF := hF.below hbx; replace hV := hV.below hbx; clear hbx) | (go_at_call 20; go_must (refine (sTableFind_any _ T _ _ hV.1).mono ?_); rintro e wx ⟨rfl, hbx⟩; replace hF := hF.below hbx; replace hV := hV.below hbx; clear hbx) | (go_at_call 17; go_must (refine (sTableOk_any _ T _ hV.1).mono ?_); rintro e wx ⟨rfl, hbx⟩; replace hF := hF.below hbx; replace hV := hV.below hbx; clear hbx))
    go_ret
    exact ⟨by simp, hF.kp⟩
end Go.Proofs.Ytbhenfegklgkoaa
