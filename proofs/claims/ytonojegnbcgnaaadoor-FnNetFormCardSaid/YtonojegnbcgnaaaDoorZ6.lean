/- Relations: the reference's functions. Relations: the reference's functions, more. Relations: who tells whom, by the reference. -/
import Derived.Test.YtonojegnbcgnaaaDoorZ4
set_option linter.unusedSimpArgs false
set_option linter.unusedVariables false
namespace Go.Proofs.YtonojegnbcgnaaaDoor
open Go.RowKit

theorem l12Back_any (r : Int) (h0 : 0 ≤ r) (h3 : r ≤ 3) (w : World) :
    Calls Tryd.prog 99 #[.int .i64 r] w fun e w' => e = .returned (.int .i64 (bk r)) ∧ Below w.heap.size w w' := by
  have : r = 0 ∨ r = 1 ∨ r = 2 ∨ r = 3 := by omega
  rcases this with rfl | rfl | rfl | rfl
  all_goals
    go_enter Tryd.func99, Tryd.ntmps99
    go_wp2
    go_ret
    exact ⟨by simp [bk], (Below.refl _ _).alloc (Nat.le_refl _) _⟩

set_option maxHeartbeats 1000000 in
theorem sRelsOk_any (v : Value) (M : List (List Int)) (w : World) (hM : Mat w v M) :
    Calls Tryd.prog 69 #[v] w fun e w' => e = .returned (.bool (decide (RelsP M))) ∧ Below w.heap.size w w' := by
  obtain ⟨n, cap, hn, hnc, hcap, ⟨hn0, ao, rfl⟩ | ⟨hn0, b0, off, rfl⟩⟩ := hM.cases
  · obtain rfl : n = 0 := by omega
    have hd : decide (RelsP M) = false := by
      rw [relsP_all hn.out (fun i hi => by omega)]; decide
    rw [hd]
    have hb : decide (Bts 0 1 5) = false := by decide
    go_enter Tryd.func69, Tryd.ntmps69
    go_wp2
    go_loopw [3] (fun i wr => i = .int .i64 0 ∧ wr = w) (fun i _ => 0)
    case atStart => exact ⟨rfl, rfl⟩
    case round =>
      obtain ⟨rfl, rfl⟩ := hrel
      go_wp2_with (go_at_call 39; refine (l6In_any _ _ _ _).mono ?_; rintro e w1 ⟨rfl, hb1⟩)
      go_ret
      exact ⟨rfl, hb1⟩
  · have HM := Lib.hid hM; clear hM
    go_enter Tryd.func69, Tryd.ntmps69
    go_wp2
    go_loopw [3] (fun i wr => ∃ k : Nat, k ≤ n ∧ i = .int .i64 k ∧ Hid (∀ j, j < k → RowOk M j) ∧ Below w.heap.size w wr) (fun i _ => n - (intOf i).toNat)
    case atStart => exact ⟨0, Nat.zero_le _, rfl, fun j h => by omega, Below.refl _ _⟩
    case round =>
      obtain ⟨i, hi, rfl, hrows, hB⟩ := hrel
      have hMr := HM.out.below hB
      by_cases hlt : i < n
      · obtain ⟨ai, mi, ci, hci, hmi, hri, -, hcc⟩ := hMr.at (k := i) (by rw [hn.out]; exact hlt)
        by_cases hm : mi = n
        · subst hm
          obtain ⟨bi, oi, rfl⟩ := hri.some hn0
          have HR := Lib.hid hri
          have HMr := Lib.hid hMr
          clear hri hMr
          go_wp2
          obtain ⟨wo, rfl⟩ : ∃ wo : World, wo = wr := ⟨_, rfl⟩
          go_loopw [4] (fun kk wr => ∃ k : Nat, k ≤ mi ∧ kk = .int .i64 k ∧ Hid (∀ j, j < k → OkAt M i j) ∧ Below wo.heap.size wo wr) (fun kk _ => mi - (intOf kk).toNat)
          case atStart => exact ⟨0, Nat.zero_le _, rfl, fun j h => by omega, Below.refl _ _⟩
          case round =>
            obtain ⟨k, hk, rfl, hat, hB2⟩ := hrel
            have hMr := HMr.out.below hB2
            have hci' := fun x : Cl wr.heap.size wr => x.cell ((hB2.cell (World.block_lt_of_cell? wo _ hci)).trans hci)
            by_cases hlk : k < mi
            · obtain ⟨ak, mk, ck, hck, hmk, hrk, -, hkc⟩ := hMr.at (k := k) (by rw [hn.out]; exact hlk)
              have hck' := fun x : Cl wr.heap.size wr => x.cell hck
              have hBx := Lib.hid (fun x : Cl wr.heap.size wr => hB.trans ((hB2.mono hB.size).trans (x.below.mono (Nat.le_trans hB.size hB2.size))))
              have hBo := Lib.hid (fun x : Cl wr.heap.size wr => hB2.trans (x.below.mono hB2.size))
              clear hMr hck
              by_cases hmk' : mk = mi
              · subst hmk'
                obtain ⟨bk', ok', rfl⟩ := hrk.some hn0
                have f4 := fun x : Cl wr.heap.size wr => x.cell (hrk.getD (k := i) (by rw [hmk.out]; exact hlt))
                have f3 := fun x : Cl wr.heap.size wr => x.cell (Ints.getD (HR.out.below hB2) (k := k) (by rw [hmi.out]; exact hlk))
                have e3 : mget M i k = (M.getD i []).getD k 0 := rfl
                have e4 : mget M k i = (M.getD k []).getD i 0 := rfl
                rw [← e3] at f3
                rw [← e4] at f4
                clear hrk e3 e4
                have hok : Hid (OkAt M i k ↔ (Bts (mget M i k) 0 3 ∧ mget M k i = bk (mget M i k) ∧ (i = k → mget M i k = 0))) := by
                  show _ ↔ _; unfold OkAt; rw [hmk.out, hn.out]; simp
                have hno := Lib.hid (fun h => relsP_no (M := M) (i := i) (k := k) hn.out hlt hlk h)
                have hstep : Hid (OkAt M i k → ∀ j, j < k + 1 → OkAt M i j) := fun h j hj => by
                  by_cases e : j = k
                  · rw [e]; exact h
                  · exact hat.out j (by omega)
                generalize mget M i k = r at *
                generalize mget M k i = s at *
                by_cases hr : Bts r 0 3
                · have hd : decide (Bts r 0 3) = true := by simp [hr]
                  have hr1 := hr.1
                  have hr2 := hr.2
                  by_cases hs : s = bk r
                  · have hs' : (s != bk r) = false := by simp [hs]
                    have HS := Lib.hid hs; clear hs
                    by_cases hik : i = k
                    · have hik' : ((i : Int) == (k : Int)) = true := by simp [hik]
                      have HIK := Lib.hid hik; clear hik
                      by_cases hz : r = 0
                      · have hz' : (r != 0) = false := by simp [hz]
                        have HZ := Lib.hid hz; clear hz
                        go_wp2
                        first | refine wp_region_new (by kernel_rfl) (by kernel_rfl) ?_ | refine wp_region_lex ?_
                        repeat (any_goals (first | go_big_quiet_step ((first | (go_at_call 39; exact Calls.cl (l6In_any _ _ _ _)) | (go_at_call 99; exact Calls.cl (l12Back_any _ hr1 hr2 _)))) | (refine wpQuiet_step (fun K hK => ?_); go_simp; split <;> (rename_i hg; refine hK _ ?_; clear hK K; simp only [hg, decide_true, decide_false]))))
                        all_goals (refine wpQuiet_nil ?_; intro x)
                        go_wp2
                        go_roundw
                        case rel => exact ⟨k + 1, by omega, by go_num, hstep.out (hok.out.2 ⟨hr, HS.out, fun _ => HZ.out⟩), hBo.out x⟩
                        case measure => simp [intOf]; omega
                      · have hz' : (r != 0) = true := by simp [hz]
                        have HF := Lib.hid (hno.out (fun h => hz ((hok.out.1 h).2.2 HIK.out)))
                        clear hz
                        go_wp2
                        first | refine wp_region_new (by kernel_rfl) (by kernel_rfl) ?_ | refine wp_region_lex ?_
                        repeat (any_goals (first | go_big_quiet_step ((first | (go_at_call 39; exact Calls.cl (l6In_any _ _ _ _)) | (go_at_call 99; exact Calls.cl (l12Back_any _ hr1 hr2 _)))) | (refine wpQuiet_step (fun K hK => ?_); go_simp; split <;> (rename_i hg; refine hK _ ?_; clear hK K; simp only [hg, decide_true, decide_false]))))
                        all_goals (refine wpQuiet_nil ?_; intro x)
                        go_wp2
                        go_ret
                        exact ⟨by rw [HF.out]; rfl, hBx.out x⟩
                    · have hik' : ((i : Int) == (k : Int)) = false := by simp; omega
                      have HIK := Lib.hid hik; clear hik
                      go_wp2
                      first | refine wp_region_new (by kernel_rfl) (by kernel_rfl) ?_ | refine wp_region_lex ?_
                      repeat (any_goals (first | go_big_quiet_step ((first | (go_at_call 39; exact Calls.cl (l6In_any _ _ _ _)) | (go_at_call 99; exact Calls.cl (l12Back_any _ hr1 hr2 _)))) | (refine wpQuiet_step (fun K hK => ?_); go_simp; split <;> (rename_i hg; refine hK _ ?_; clear hK K; simp only [hg, decide_true, decide_false]))))
                      all_goals (refine wpQuiet_nil ?_; intro x)
                      go_wp2
                      go_roundw
                      case rel => exact ⟨k + 1, by omega, by go_num, hstep.out (hok.out.2 ⟨hr, HS.out, fun h => (HIK.out h).elim⟩), hBo.out x⟩
                      case measure => simp [intOf]; omega
                  · have hs' : (s != bk r) = true := by simp [hs]
                    have HF := Lib.hid (hno.out (fun h => hs ((hok.out.1 h).2.1)))
                    clear hs
                    go_wp2
                    first | refine wp_region_new (by kernel_rfl) (by kernel_rfl) ?_ | refine wp_region_lex ?_
                    repeat (any_goals (first | go_big_quiet_step ((first | (go_at_call 39; exact Calls.cl (l6In_any _ _ _ _)) | (go_at_call 99; exact Calls.cl (l12Back_any _ hr1 hr2 _)))) | (refine wpQuiet_step (fun K hK => ?_); go_simp; split <;> (rename_i hg; refine hK _ ?_; clear hK K; simp only [hg, decide_true, decide_false]))))
                    all_goals (refine wpQuiet_nil ?_; intro x)
                    go_wp2
                    go_ret
                    exact ⟨by rw [HF.out]; rfl, hBx.out x⟩
                · have hd : decide (Bts r 0 3) = false := by simp [hr]
                  have HF := Lib.hid (hno.out (fun h => hr ((hok.out.1 h).1)))
                  clear hr
                  go_wp2
                  first | refine wp_region_new (by kernel_rfl) (by kernel_rfl) ?_ | refine wp_region_lex ?_
                  repeat (any_goals (first | go_big_quiet_step ((first | (go_at_call 39; exact Calls.cl (l6In_any _ _ _ _)) | (go_at_call 99; exact Calls.cl (l12Back_any _ hr1 hr2 _)))) | (refine wpQuiet_step (fun K hK => ?_); go_simp; split <;> (rename_i hg; refine hK _ ?_; clear hK K; simp only [hg, decide_true, decide_false]))))
                  all_goals (refine wpQuiet_nil ?_; intro x)
                  go_wp2
                  go_ret
                  exact ⟨by rw [HF.out]; rfl, hBx.out x⟩
              · have hmk2 : ((mk : Int) != (mi : Int)) = true := by simp; omega
                have HF := Lib.hid (relsP_row (M := M) (i := k) hn.out hlk (by rw [hmk.out]; exact hmk'))
                clear hmk'
                go_wp2
                first | refine wp_region_new (by kernel_rfl) (by kernel_rfl) ?_ | refine wp_region_lex ?_
                repeat (any_goals (first | go_big_quiet_step ((fail)) | (refine wpQuiet_step (fun K hK => ?_); go_simp; split <;> (rename_i hg; refine hK _ ?_; clear hK K; simp only [hg, decide_true, decide_false]))))
                all_goals (refine wpQuiet_nil ?_; intro x)
                go_wp2
                go_ret
                exact ⟨by rw [HF.out]; rfl, hBx.out x⟩
            · have hrow : Hid (∀ j, j < i + 1 → RowOk M j) := fun j hj => by
                by_cases e : j = i
                · rw [e]; exact ⟨by rw [hmi.out, hn.out], fun k' hk' => hat.out k' (by rw [hn.out] at hk'; omega)⟩
                · exact hrows.out j (by omega)
              have hBx := hB.trans (hB2.mono hB.size)
              clear hci' hMr
              go_wp2
              go_roundw
              case rel => exact ⟨i + 1, by omega, by go_num, hrow, hBx⟩
              case measure => simp [intOf]; omega
        · have hm2 : ((mi : Int) != (n : Int)) = true := by simp; omega
          have HF := Lib.hid (relsP_row (M := M) (i := i) hn.out hlt (by rw [hmi.out]; exact hm))
          clear hm hMr hri
          go_wp2
          go_ret
          exact ⟨by rw [HF.out]; rfl, hB⟩
      · obtain rfl : i = n := by omega
        have hall := Lib.hid (relsP_all hn.out hrows.out)
        clear hMr
        go_wp2_with (go_at_call 39; refine (l6In_any _ _ _ _).mono ?_; rintro e w1 ⟨rfl, hb1⟩)
        go_ret
        exact ⟨by rw [hall.out]; rfl, hB.trans (hb1.mono hB.size)⟩
end Go.Proofs.YtonojegnbcgnaaaDoor
set_option linter.unusedSimpArgs false
set_option linter.unusedVariables false
namespace Go.Proofs.YtonojegnbcgnaaaDoor
open Go.RowKit

theorem Mat.sl {w : World} {v : Value} {M : List (List Int)} (h : Mat w v M) : ∃ ao n cap, v = .slice ao n cap ∧ Hid (M.length = n) ∧ n ≤ 9223372036854775807 := by
  obtain ⟨n, cap, hn, h1, h2, ⟨h0, ao, rfl⟩ | ⟨h0, b, off, rfl⟩⟩ := h.cases
  · exact ⟨_, _, _, rfl, hn, by omega⟩
  · exact ⟨_, _, _, rfl, hn, by omega⟩

theorem l12Of_any (v : Value) (M : List (List Int)) (a b : Nat) (w : World) (hM : Mat w v M) (ha : a < M.length) (hb : b < (M.getD a []).length) :
    Calls Tryd.prog 105 #[v, .int .i64 ((a : Int) + 1), .int .i64 ((b : Int) + 1)] w fun e w' => e = .returned (.int .i64 (mget M a b)) ∧ Below w.heap.size w w' := by
  obtain ⟨n, cap, hn, hnc, hcap, ⟨hn0, ao, rfl⟩ | ⟨hn0, b0, off, rfl⟩⟩ := hM.cases
  · exfalso; have := hn.out; omega
  obtain ⟨ai, mi, ci, hci, hmi, hri, hmc, hcc⟩ := hM.at (k := a) ha
  obtain ⟨bi, oi, rfl⟩ := hri.some (by have := hmi.out; omega)
  have f3 := Ints.getD hri (k := b) hb
  have e3 : mget M a b = (M.getD a []).getD b 0 := rfl
  rw [← e3] at f3
  have h1 : a < n := by have := hn.out; omega
  have h2 : b < mi := by have := hmi.out; omega
  have h3 : (a : Int) + 1 ≤ 9223372036854775807 := by omega
  have h4 : (b : Int) + 1 ≤ 9223372036854775807 := by omega
  clear hri hM e3 ha hb
  go_enter Tryd.func105, Tryd.ntmps105
  go_wp2
  go_ret
  exact ⟨rfl, Below.refl _ _⟩
/-- What the house b is to the house a. -/
def mgi (M : List (List Int)) (a b : Int) : Int := mget M (a - 1).toNat (b - 1).toNat
theorem l12Of_i (v : Value) (M : List (List Int)) (a b : Int) (w : World) (hM : Mat w v M) (h1 : 1 ≤ a) (hp : (M.getD (a - 1).toNat []).length = M.length) (h2 : a ≤ M.length) (h3 : 1 ≤ b) (h4 : b ≤ M.length) :
    Calls Tryd.prog 105 #[v, .int .i64 a, .int .i64 b] w fun e w' => e = .returned (.int .i64 (mgi M a b)) ∧ Below w.heap.size w w' := by
  have := l12Of_any v M (a - 1).toNat (b - 1).toNat w hM (by omega) (by omega)
  rw [show (((a - 1).toNat : Nat) : Int) + 1 = a by omega, show (((b - 1).toNat : Nat) : Int) + 1 = b by omega] at this
  exact this
theorem RelsP.row {M : List (List Int)} (h : RelsP M) {i : Nat} (hi : i < M.length) : (M.getD i []).length = M.length := (h.1 i hi).1
theorem l12Of_r (v : Value) (M : List (List Int)) (n : Nat) (hn : Hid (M.length = n)) (hp : Hid (RelsP M)) (a b : Int) (w : World) (hM : Mat w v M) (ha : Bts a 1 n) (hb : Bts b 1 n) :
    Calls Tryd.prog 105 #[v, .int .i64 a, .int .i64 b] w fun e w' => e = .returned (.int .i64 (mgi M a b)) ∧ Below w.heap.size w w' := by
  obtain ⟨a1, a2⟩ := ha
  obtain ⟨b1, b2⟩ := hb
  have := hn.out
  exact l12Of_i v M a b w hM a1 (hp.out.row (by omega)) (by omega) b1 (by omega)

/-- What RelOf says. -/
def relof (M : List (List Int)) (a b : Int) : Int := if RelsP M ∧ Bts a 1 M.length ∧ Bts b 1 M.length then mgi M a b else 0
theorem mgi_bd {M : List (List Int)} (h : RelsP M) {a b : Int} (ha : Bts a 1 M.length) (hb : Bts b 1 M.length) : Bts (mgi M a b) 0 3 := by
  obtain ⟨a1, a2⟩ := ha
  obtain ⟨b1, b2⟩ := hb
  exact ((h.1 (a - 1).toNat (by omega)).2 (b - 1).toNat (by omega)).2.1
theorem mgi_back {M : List (List Int)} (h : RelsP M) {a b : Int} (ha : Bts a 1 M.length) (hb : Bts b 1 M.length) : mgi M b a = bk (mgi M a b) := by
  obtain ⟨a1, a2⟩ := ha
  obtain ⟨b1, b2⟩ := hb
  exact ((h.1 (a - 1).toNat (by omega)).2 (b - 1).toNat (by omega)).2.2.1
theorem mgi_self {M : List (List Int)} (h : RelsP M) {a : Int} (ha : Bts a 1 M.length) : mgi M a a = 0 := by
  obtain ⟨a1, a2⟩ := ha
  exact ((h.1 (a - 1).toNat (by omega)).2 (a - 1).toNat (by omega)).2.2.2 rfl
theorem relof_bd (M : List (List Int)) (a b : Int) : Bts (relof M a b) 0 3 := by
  unfold relof
  split
  · rename_i h; exact mgi_bd h.1 h.2.1 h.2.2
  · exact ⟨by omega, by omega⟩
theorem relof_back {M : List (List Int)} {a b : Int} : relof M b a = bk (relof M a b) := by
  unfold relof
  by_cases h : RelsP M ∧ Bts a 1 M.length ∧ Bts b 1 M.length
  · rw [if_pos h, if_pos ⟨h.1, h.2.2, h.2.1⟩]; exact mgi_back h.1 h.2.1 h.2.2
  · rw [if_neg h, if_neg (fun g => h ⟨g.1, g.2.2, g.2.1⟩)]; rfl
theorem relof_self {M : List (List Int)} {a : Int} : relof M a a = 0 := by
  unfold relof; split
  · rename_i h; exact mgi_self h.1 h.2.1
  · rfl

end Go.Proofs.YtonojegnbcgnaaaDoor
set_option linter.unusedSimpArgs false
set_option linter.unusedVariables false
namespace Go.Proofs.YtonojegnbcgnaaaDoor
open Go.RowKit

def May1 (M : List (List Int)) (h o t : Int) : Prop := mgi M h t ≠ 0 ∧ (o = 0 ∨ mgi M h o = 1 ∨ mgi M h t = 1)
instance (M : List (List Int)) (h o t : Int) : Decidable (May1 M h o t) := by unfold May1; infer_instance
def MayP (M : List (List Int)) (h o t : Int) : Prop := RelsP M ∧ Bts h 1 M.length ∧ Bts o 0 M.length ∧ Bts t 1 M.length ∧ May1 M h o t
instance (M : List (List Int)) (h o t : Int) : Decidable (MayP M h o t) := by unfold MayP; infer_instance

set_option maxHeartbeats 1000000 in
theorem l12May_any (v : Value) (M : List (List Int)) (n : Nat) (hn : Hid (M.length = n)) (HP : Hid (RelsP M)) (h o t : Int) (w : World) (hM : Mat w v M) (hh : Bts h 1 n) (ho : Bts o 0 n) (ht : Bts t 1 n) :
    Calls Tryd.prog 123 #[v, .int .i64 h, .int .i64 o, .int .i64 t] w fun e w' => e = .returned (.bool (decide (May1 M h o t))) ∧ Below w.heap.size w w' := by
  have hF := Fb.start w
  by_cases h1 : mgi M h t = 0
  · have e1 : (mgi M h t == 0) = true := by simp [h1]
    have hr : decide (May1 M h o t) = false := by simp [May1, h1]
    rw [hr]; clear hr h1
    go_enter Tryd.func123, Tryd.ntmps123
    go_wp2_with (first | (go_at_call 69; go_must (refine (sRelsOk_any _ M _ hM).mono ?_); rintro e wx ⟨rfl, hbx⟩; replace hF := hF.below hbx; replace hM := hM.below hbx; clear hbx) | (go_at_call 39; go_must (refine (l6In_any _ _ _ _).mono ?_); rintro e wx ⟨rfl, hbx⟩; replace hF := hF.below hbx; replace hM := hM.below hbx; clear hbx) | (go_at_call 105; go_must (refine (l12Of_r _ M n hn HP _ _ _ hM (by assumption) (by assumption)).mono ?_); rintro e wx ⟨rfl, hbx⟩; replace hF := hF.below hbx; replace hM := hM.below hbx; clear hbx))
    go_ret
    exact ⟨rfl, hF.kp⟩
  have e1 : (mgi M h t == 0) = false := by simp [h1]
  by_cases h2 : o = 0
  · subst h2
    have hr : decide (May1 M h 0 t) = true := by simp [May1, h1]
    rw [hr]; clear hr h1
    go_enter Tryd.func123, Tryd.ntmps123
    go_wp2_with (first | (go_at_call 69; go_must (refine (sRelsOk_any _ M _ hM).mono ?_); rintro e wx ⟨rfl, hbx⟩; replace hF := hF.below hbx; replace hM := hM.below hbx; clear hbx) | (go_at_call 39; go_must (refine (l6In_any _ _ _ _).mono ?_); rintro e wx ⟨rfl, hbx⟩; replace hF := hF.below hbx; replace hM := hM.below hbx; clear hbx) | (go_at_call 105; go_must (refine (l12Of_r _ M n hn HP _ _ _ hM (by assumption) (by assumption)).mono ?_); rintro e wx ⟨rfl, hbx⟩; replace hF := hF.below hbx; replace hM := hM.below hbx; clear hbx))
    go_ret
    exact ⟨rfl, hF.kp⟩
  have e2 : (o == 0) = false := by simp [h2]
  have ho' : Bts o 1 n := by unfold Bts at *; omega
  by_cases h3 : mgi M h o = 1
  · have e3 : (mgi M h o == 1) = true := by simp [h3]
    have hr : decide (May1 M h o t) = true := by simp [May1, h1, h3]
    rw [hr]; clear hr h1 h2 h3
    go_enter Tryd.func123, Tryd.ntmps123
    go_wp2_with (first | (go_at_call 69; go_must (refine (sRelsOk_any _ M _ hM).mono ?_); rintro e wx ⟨rfl, hbx⟩; replace hF := hF.below hbx; replace hM := hM.below hbx; clear hbx) | (go_at_call 39; go_must (refine (l6In_any _ _ _ _).mono ?_); rintro e wx ⟨rfl, hbx⟩; replace hF := hF.below hbx; replace hM := hM.below hbx; clear hbx) | (go_at_call 105; go_must (refine (l12Of_r _ M n hn HP _ _ _ hM (by assumption) (by assumption)).mono ?_); rintro e wx ⟨rfl, hbx⟩; replace hF := hF.below hbx; replace hM := hM.below hbx; clear hbx))
    go_ret
    exact ⟨rfl, hF.kp⟩
  have e3 : (mgi M h o == 1) = false := by simp [h3]
  by_cases h4 : mgi M h t = 1
  · have e4 : (mgi M h t == 1) = true := by simp [h4]
    have hr : decide (May1 M h o t) = true := by simp [May1, h4]
    rw [hr]; clear hr h1 h2 h3 h4
    go_enter Tryd.func123, Tryd.ntmps123
    go_wp2_with (first | (go_at_call 69; go_must (refine (sRelsOk_any _ M _ hM).mono ?_); rintro e wx ⟨rfl, hbx⟩; replace hF := hF.below hbx; replace hM := hM.below hbx; clear hbx) | (go_at_call 39; go_must (refine (l6In_any _ _ _ _).mono ?_); rintro e wx ⟨rfl, hbx⟩; replace hF := hF.below hbx; replace hM := hM.below hbx; clear hbx) | (go_at_call 105; go_must (refine (l12Of_r _ M n hn HP _ _ _ hM (by assumption) (by assumption)).mono ?_); rintro e wx ⟨rfl, hbx⟩; replace hF := hF.below hbx; replace hM := hM.below hbx; clear hbx))
    go_ret
    exact ⟨rfl, hF.kp⟩
  · have e4 : (mgi M h t == 1) = false := by simp [h4]
    have hr : decide (May1 M h o t) = false := by simp [May1, h2, h3, h4]
    rw [hr]; clear hr h1 h2 h3 h4
    go_enter Tryd.func123, Tryd.ntmps123
    go_wp2_with (first | (go_at_call 69; go_must (refine (sRelsOk_any _ M _ hM).mono ?_); rintro e wx ⟨rfl, hbx⟩; replace hF := hF.below hbx; replace hM := hM.below hbx; clear hbx) | (go_at_call 39; go_must (refine (l6In_any _ _ _ _).mono ?_); rintro e wx ⟨rfl, hbx⟩; replace hF := hF.below hbx; replace hM := hM.below hbx; clear hbx) | (go_at_call 105; go_must (refine (l12Of_r _ M n hn HP _ _ _ hM (by assumption) (by assumption)).mono ?_); rintro e wx ⟨rfl, hbx⟩; replace hF := hF.below hbx; replace hM := hM.below hbx; clear hbx))
    go_ret
    exact ⟨rfl, hF.kp⟩

end Go.Proofs.YtonojegnbcgnaaaDoor
