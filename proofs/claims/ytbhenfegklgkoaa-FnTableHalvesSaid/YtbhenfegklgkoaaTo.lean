/- Tables that go to each address by the same: both; a table without what changes nothing, by the reference. -/
import Derived.Test.YtbhenfegklgkoaaTn
set_option linter.unusedSimpArgs false
set_option linter.unusedVariables false
namespace Go.Proofs.Ytbhenfegklgkoaa
open Go.RowKit

def Sm2 (u v : Nat → Int) (n : Nat) : Prop := ∀ a, a < n → fl u a 9 = fl v a 9
instance (u v : Nat → Int) (n : Nat) : Decidable (Sm2 u v n) := by unfold Sm2; infer_instance
abbrev SmT (T U : List Ent) : Prop := Sm2 (va T) (va U) 256
theorem sm2_step {u v : Nat → Int} {n : Nat} (h : Sm2 u v n) (e : fl u n 9 = fl v n 9) : Sm2 u v (n + 1) := fun a ha => by
  by_cases h1 : a = n
  · rw [h1]; exact e
  · exact h a (by omega)
theorem sm2_no {u v : Nat → Int} {n m : Nat} (hn : n < m) (e : fl u n 9 ≠ fl v n 9) : decide (Sm2 u v m) = false := decide_eq_false (fun h => e (h n hn))
theorem find_as (a B root : Nat) (nd : Nat → Option Nat) (vs : Nat → Int) (P : Int) (w : World) (hP : fl vs a 9 = P) (ha : a < 256) (hT : Tr w B root nd vs) :
    Calls Try.prog 50 #[.pointer (some ⟨root, 0, none⟩), .int .i64 a] w fun e w' => e = .returned (.int .i64 P) ∧ Below w.heap.size w w' := by
  rw [← hP]; exact find_any a B root nd vs w ha hT
set_option maxHeartbeats 1000000 in
theorem sameHops_any (B1 B2 g1 g2 : Nat) (nd1 nd2 : Nat → Option Nat) (u v : Nat → Int) (w : World) (h1 : Tr w B1 g1 nd1 u) (h2 : Tr w B2 g2 nd2 v) :
    Calls Try.prog 56 #[.pointer (some ⟨g1, 0, none⟩), .pointer (some ⟨g2, 0, none⟩)] w fun e w' => e = .returned (.bool (decide (Sm2 u v 256))) ∧ Below w.heap.size w w' := by
  have hF := Fb.start w
  have H1 := Lib.hid h1
  have H2 := Lib.hid h2
  clear h1 h2
  go_enter Try.func56, Try.ntmps56
  go_wp2
  go_loopw [6] (fun i wr => ∃ k : Nat, k ≤ 256 ∧ i = .int .i64 k ∧ Hid (Sm2 u v k) ∧ Fb w wr []) (fun i _ => 256 - (intOf i).toNat)
  case atStart => exact ⟨0, by omega, rfl, (fun a h => by omega), hF⟩
  case round =>
    clear hF
    obtain ⟨k, hk, rfl, hs, hF⟩ := hrel
    by_cases hlt : k < 256
    · have dl : decide ((k : Int) < 256) = true := by simp; omega
      have dl' : decide (k < 256) = true := by simp [hlt]
      have hltI : (k : Int) < 256 := by omega
      obtain ⟨P, hP⟩ : ∃ P, Hid (fl u k 9 = P) := ⟨_, rfl⟩
      obtain ⟨R, hR⟩ : ∃ P, Hid (fl v k 9 = P) := ⟨_, rfl⟩
      by_cases he : P = R
      · have d1 : (P != R) = false := by simp [he]
        have hs2 : Hid (Sm2 u v (k + 1)) := sm2_step hs.out (by rw [hP.out, hR.out]; exact he)
        clear he
        go_wp2_with fail
        refine (find_as k _ _ _ u P _ hP.out hlt (H1.out.below hF.kp)).mono ?_; rintro e w1 ⟨rfl, hb1⟩
        replace hF := hF.below hb1
        clear hb1
        go_wp2_with fail
        refine (find_as k _ _ _ v R _ hR.out hlt (H2.out.below hF.kp)).mono ?_; rintro e w2 ⟨rfl, hb2⟩
        replace hF := hF.below hb2
        clear hb2
        go_wp2
        go_roundw
        case rel => exact ⟨k + 1, by omega, by go_num, hs2, hF⟩
        case measure => simp [intOf]; omega
      · have d1 : (P != R) = true := by simp [he]
        have hs2 : Hid (decide (Sm2 u v 256) = false) := sm2_no hlt (by rw [hP.out, hR.out]; exact he)
        clear he
        go_wp2_with fail
        refine (find_as k _ _ _ u P _ hP.out hlt (H1.out.below hF.kp)).mono ?_; rintro e w1 ⟨rfl, hb1⟩
        replace hF := hF.below hb1
        clear hb1
        go_wp2_with fail
        refine (find_as k _ _ _ v R _ hR.out hlt (H2.out.below hF.kp)).mono ?_; rintro e w2 ⟨rfl, hb2⟩
        replace hF := hF.below hb2
        clear hb2
        go_wp2
        go_ret
        exact ⟨by rw [hs2.out]; rfl, hF.kp⟩
    · obtain rfl : k = 256 := by omega
      have hd : Hid (decide (Sm2 u v 256) = true) := decide_eq_true hs.out
      go_wp2
      go_ret
      exact ⟨by rw [hd.out]; rfl, hF.kp⟩
set_option maxHeartbeats 1000000 in
theorem l2Same_any (v1 v2 : Value) (T U : List Ent) (w : World) (h1 : Ents w v1 T) (h2 : Ents w v2 U) (hT : TOk T) (hU : TOk U) :
    Calls Try.prog 57 #[v1, v2] w fun e w' => e = .returned (.bool (decide (SmT T U))) ∧ Below w.heap.size w w' := by
  have hF := Fb.start w
  have H1 := Lib.hid h1
  have H2 := Lib.hid h2
  have HT := Lib.hid hT
  have HU := Lib.hid hU
  clear h1 h2 hT hU
  go_enter Try.func57, Try.ntmps57
  go_wp2
  go_loopw [5] (fun i wr => ∃ k : Nat, k ≤ 256 ∧ i = .int .i64 k ∧ Hid (Sm2 (va T) (va U) k) ∧ Fb w wr []) (fun i _ => 256 - (intOf i).toNat)
  case atStart => exact ⟨0, by omega, rfl, (fun a h => by omega), hF⟩
  case round =>
    clear hF
    obtain ⟨k, hk, rfl, hs, hF⟩ := hrel
    by_cases hlt : k < 256
    · have hle : (k : Int) ≤ 255 := by omega
      by_cases he : fnd T k = fnd U k
      · have d1 : (fnd T k != fnd U k) = false := by simp [he]
        have hs2 := Lib.hid (sm2_step hs.out he)
        clear he
        go_wp2_with fail
        refine (l2Find_any _ T k _ (H1.out.below hF.kp) HT.out hlt).mono ?_; rintro e w1 ⟨rfl, hb1⟩
        replace hF := hF.below hb1
        clear hb1
        go_wp2_with fail
        refine (l2Find_any _ U k _ (H2.out.below hF.kp) HU.out hlt).mono ?_; rintro e w2 ⟨rfl, hb2⟩
        replace hF := hF.below hb2
        clear hb2
        go_wp2
        go_roundw
        case rel => exact ⟨k + 1, by omega, by go_num, hs2, hF⟩
        case measure => simp [intOf]; omega
      · have d1 : (fnd T k != fnd U k) = true := by simp [he]
        have hs2 := Lib.hid (sm2_no (u := va T) (v := va U) hlt he)
        clear he
        go_wp2_with fail
        refine (l2Find_any _ T k _ (H1.out.below hF.kp) HT.out hlt).mono ?_; rintro e w1 ⟨rfl, hb1⟩
        replace hF := hF.below hb1
        clear hb1
        go_wp2_with fail
        refine (l2Find_any _ U k _ (H2.out.below hF.kp) HU.out hlt).mono ?_; rintro e w2 ⟨rfl, hb2⟩
        replace hF := hF.below hb2
        clear hb2
        go_wp2
        go_ret
        exact ⟨by rw [hs2.out]; rfl, hF.kp⟩
    · obtain rfl : k = 256 := by omega
      have hd : Hid (decide (SmT T U) = true) := decide_eq_true hs.out
      go_wp2
      go_ret
      exact ⟨by rw [hd.out]; rfl, hF.kp⟩
def TSame (T U : List Ent) : Prop := TOk T ∧ TOk U ∧ SmT T U
instance (T U : List Ent) : Decidable (TSame T U) := by unfold TSame; infer_instance
theorem iTableSame_any (v1 v2 : Value) (T U : List Ent) (w : World) (h1 : Ents w v1 T) (h2 : Ents w v2 U) :
    Calls Try.prog 25 #[v1, v2] w fun e w' => e = .returned (.bool (decide (TSame T U))) ∧ Below w.heap.size w w' := by
  have hF := Fb.start w
  have H1 := Lib.hid h1
  have H2 := Lib.hid h2
  clear h1 h2
  by_cases hT : TOk T
  · have d1 : decide (TOk T) = true := by simp [hT]
    by_cases hU : TOk U
    · have d2 : decide (TOk U) = true := by simp [hU]
      have hd : Hid (decide (TSame T U) = decide (SmT T U)) := decide_eq_decide.2 ⟨fun g => g.2.2, fun g => ⟨hT, hU, g⟩⟩
      have HT := Lib.hid hT
      have HU := Lib.hid hU
      clear hT hU
      go_enter Try.func25, Try.ntmps25
      go_wp2_with fail
      refine (iTableOk_any _ T _ H1.out).mono ?_; rintro e wx ⟨rfl, hbx⟩
      replace hF := hF.below hbx
      clear hbx
      go_wp2_with fail
      refine (iTableOk_any _ U _ (H2.out.below hF.kp)).mono ?_; rintro e wx ⟨rfl, hbx⟩
      replace hF := hF.below hbx
      clear hbx
      go_wp2_with fail
      refine (trieOf_any _ T _ (H1.out.below hF.kp) HT.out).mono ?_; rintro e w3 ⟨rfl, ⟨nd1, hT1⟩, hB1⟩
      replace hF := hF.below hB1
      clear hB1
      go_wp2_with fail
      refine (trieOf_any _ U _ (H2.out.below hF.kp) HU.out).mono ?_; rintro e w4 ⟨rfl, ⟨nd2, hT2⟩, hB2⟩
      replace hF := hF.below hB2
      have HT1 := Lib.hid (hT1.below hB2)
      have HT2 := Lib.hid hT2
      clear hB2 hT1 hT2
      go_wp2_with fail
      refine (sameHops_any _ _ _ _ _ _ _ _ _ HT1.out HT2.out).mono ?_; rintro e w5 ⟨rfl, hB5⟩
      replace hF := hF.below hB5
      clear hB5
      go_wp2
      go_ret
      exact ⟨by rw [hd.out]; rfl, hF.kp⟩
    · have d2 : decide (TOk U) = false := by simp [hU]
      have hd : Hid (decide (TSame T U) = false) := decide_eq_false (fun g => hU g.2.1)
      clear hT hU
      go_enter Try.func25, Try.ntmps25
      go_wp2_with fail
      refine (iTableOk_any _ T _ H1.out).mono ?_; rintro e wx ⟨rfl, hbx⟩
      replace hF := hF.below hbx
      clear hbx
      go_wp2_with fail
      refine (iTableOk_any _ U _ (H2.out.below hF.kp)).mono ?_; rintro e wx ⟨rfl, hbx⟩
      replace hF := hF.below hbx
      clear hbx
      go_wp2
      go_ret
      exact ⟨by rw [hd.out]; rfl, hF.kp⟩
  · have d1 : decide (TOk T) = false := by simp [hT]
    have hd : Hid (decide (TSame T U) = false) := decide_eq_false (fun g => hT g.1)
    clear hT
    go_enter Try.func25, Try.ntmps25
    go_wp2_with fail
    refine (iTableOk_any _ T _ H1.out).mono ?_; rintro e wx ⟨rfl, hbx⟩
    replace hF := hF.below hbx
    clear hbx
    go_wp2
    go_ret
    exact ⟨by rw [hd.out]; rfl, hF.kp⟩
theorem sTableSame_any (v1 v2 : Value) (T U : List Ent) (w : World) (h1 : Ents w v1 T) (h2 : Ents w v2 U) :
    Calls Try.prog 26 #[v1, v2] w fun e w' => e = .returned (.bool (decide (TSame T U))) ∧ Below w.heap.size w w' := by
  have hF := Fb.start w
  have H1 := Lib.hid h1
  have H2 := Lib.hid h2
  clear h1 h2
  by_cases hT : TOk T
  · have d1 : decide (TOk T) = true := by simp [hT]
    by_cases hU : TOk U
    · have d2 : decide (TOk U) = true := by simp [hU]
      have hd : Hid (decide (TSame T U) = decide (SmT T U)) := decide_eq_decide.2 ⟨fun g => g.2.2, fun g => ⟨hT, hU, g⟩⟩
      have HT := Lib.hid hT
      have HU := Lib.hid hU
      clear hT hU
      go_enter Try.func26, Try.ntmps26
      go_wp2_with fail
      refine (sTableOk_any _ T _ H1.out).mono ?_; rintro e wx ⟨rfl, hbx⟩
      replace hF := hF.below hbx
      clear hbx
      go_wp2_with fail
      refine (sTableOk_any _ U _ (H2.out.below hF.kp)).mono ?_; rintro e wx ⟨rfl, hbx⟩
      replace hF := hF.below hbx
      clear hbx
      go_wp2_with fail
      refine (l2Same_any _ _ T U _ (H1.out.below hF.kp) (H2.out.below hF.kp) HT.out HU.out).mono ?_; rintro e w5 ⟨rfl, hB5⟩
      replace hF := hF.below hB5
      clear hB5
      go_wp2
      go_ret
      exact ⟨by rw [hd.out]; rfl, hF.kp⟩
    · have d2 : decide (TOk U) = false := by simp [hU]
      have hd : Hid (decide (TSame T U) = false) := decide_eq_false (fun g => hU g.2.1)
      clear hT hU
      go_enter Try.func26, Try.ntmps26
      go_wp2_with fail
      refine (sTableOk_any _ T _ H1.out).mono ?_; rintro e wx ⟨rfl, hbx⟩
      replace hF := hF.below hbx
      clear hbx
      go_wp2_with fail
      refine (sTableOk_any _ U _ (H2.out.below hF.kp)).mono ?_; rintro e wx ⟨rfl, hbx⟩
      replace hF := hF.below hbx
      clear hbx
      go_wp2
      go_ret
      exact ⟨by rw [hd.out]; rfl, hF.kp⟩
  · have d1 : decide (TOk T) = false := by simp [hT]
    have hd : Hid (decide (TSame T U) = false) := decide_eq_false (fun g => hT g.1)
    clear hT
    go_enter Try.func26, Try.ntmps26
    go_wp2_with fail
    refine (sTableOk_any _ T _ H1.out).mono ?_; rintro e wx ⟨rfl, hbx⟩
    replace hF := hF.below hbx
    clear hbx
    go_wp2
    go_ret
    exact ⟨by rw [hd.out]; rfl, hF.kp⟩
/-- Without the first k entries that change nothing. -/
def lst (T : List Ent) : Nat → List Ent
  | 0 => T
  | k + 1 => if SmT (drp (lst T k) ((T.getD k zE).1, (T.getD k zE).2.1)) (lst T k) then drp (lst T k) ((T.getD k zE).1, (T.getD k zE).2.1) else lst T k
theorem lst_tok {T : List Ent} (h : TOk T) : ∀ k, TOk (lst T k)
  | 0 => h
  | k + 1 => by
    have ih := lst_tok h k
    unfold lst
    split
    · exact drp_tok ih _
    · exact ih
def lessT (T : List Ent) : List Ent := if TOk T then lst T T.length else []
set_option maxHeartbeats 1000000 in
theorem sTableLess_any (v : Value) (T : List Ent) (w : World) (hv : Tb w v T) (hne : v ≠ .slice none 0 0) :
    Calls Try.prog 33 #[v] w fun e w' => ∃ u, e = .returned u ∧ Own 29 w' w.heap.size u 3 encE (lessT T) ∧ Below w.heap.size w w' := by
  have hF := Fb.start w
  by_cases hT : TOk T
  · have d1 : decide (TOk T) = true := by simp [hT]
    have hl : Hid (lessT T = lst T T.length) := by show _ = _; unfold lessT; rw [if_pos hT]
    have HT := Lib.hid hT
    have hT12 := hT.2
    have HV := Lib.hid hv
    rcases hv.cases with ⟨rfl, rfl⟩ | ⟨b, off, n, c, rfl, hn, hnc, hcc⟩
    · exact (hne rfl).elim
    · have hn12 : n ≤ 12 := by have := hn.out; omega
      clear hT hv
      go_enter Try.func33, Try.ntmps33
      go_wp2_with fail
      refine (sTableOk_any _ T _ HV.out.1).mono ?_; rintro e w1 ⟨rfl, hb1⟩
      have hsz := hb1.size
      have hV1 := Lib.hid ((HV.out.below hb1).1.alloc (.cells #[] 29))
      replace hF := (hF.below hb1).other (.cells #[] 29)
      clear hb1
      go_wp2_with (at_builtin; refine wpList_apps rfl _ _ 23 rfl 29 (.agg #[.int .i64 0, .int .i64 0, .int .i64 0]) 3 24 Try.underlying23 infoEnt rfl (by decide) (by decide) w1.heap.size encE (fun _ => rfl) (fun _ u hu => by simp [encE] at hu; rcases hu with rfl | rfl | rfl <;> rfl) _ [] rfl (Own.made _ _ _ _ _ (Nat.le_refl _)) b off n c T rfl hV1.out (by simp; omega) (by simp) ?_; intro v' wx hO1 hg1 hb1 hf1 hz1; replace hF := hF.belowB hb1 hsz (by simp))
      rw [List.nil_append] at hO1
      have hO := hO1.base (B := w.heap.size) (by omega)
      clear hO1 hg1 hb1 hf1 hz1 hV1
      go_loopw [3, 4] (fun s3 s4 wr => ∃ k : Nat, k ≤ n ∧ s4 = .int .i64 k ∧ Own 29 wr w.heap.size s3 3 encE (lst T k) ∧ Fb w wr []) (fun _ s4 _ => n - (intOf s4).toNat)
      case atStart => exact ⟨0, Nat.zero_le _, rfl, hO, hF⟩
      case round =>
        clear hF hO
        obtain ⟨k, hk, rfl, hO, hF⟩ := hrel
        by_cases hlt : k < n
        · obtain ⟨y, hy⟩ := get_of hn.out hlt
          have c0 := hF.old (HV.out.1.get hy (j := 0) rfl)
          have c1 := hF.old (HV.out.1.get hy (j := 1) rfl)
          have hst : Hid (lst T (k + 1) = if SmT (drp (lst T k) (y.1, y.2.1)) (lst T k) then drp (lst T k) (y.1, y.2.1) else lst T k) := by
            show (if _ then _ else _) = _; rw [getD_of hy]
          have hLk := Lib.hid (lst_tok HT.out k)
          clear hy
          obtain ⟨yf, yb, yv⟩ := y
          dsimp only [Nat.add_zero] at c0 c1 hst
          have hl12 := hLk.out.2
          go_wp2_with fail
          refine (l2Drop_any _ (lst T k) _ _ _ (hO.rows (fun _ => rfl)) (by omega)).mono ?_; rintro e w2 ⟨u, rfl, hD, hb2⟩
          have hFs := hF.kp.size
          replace hF := hF.below hb2
          replace hO := hO.below hb2
          replace hD := hD.base (B := w.heap.size) hFs
          clear hb2 c0 c1
          by_cases hs : SmT (drp (lst T k) (yf, yb)) (lst T k)
          · have d2 : decide (SmT (drp (lst T k) (yf, yb)) (lst T k)) = true := by simp [hs]
            have hst2 : Hid (lst T (k + 1) = drp (lst T k) (yf, yb)) := by show _ = _; rw [hst.out, if_pos hs]
            clear hs
            go_wp2_with fail
            refine (l2Same_any _ _ _ (lst T k) _ (hD.rows (fun _ => rfl)) (hO.rows (fun _ => rfl)) (drp_tok hLk.out _) hLk.out).mono ?_; rintro e w3 ⟨rfl, hb3⟩
            replace hF := hF.below hb3
            replace hD := hD.below hb3
            clear hb3 hO
            go_wp2
            go_roundw
            case rel => exact ⟨k + 1, by omega, by go_num, by rw [hst2.out]; exact hD, hF⟩
            case measure => simp [intOf]; omega
          · have d2 : decide (SmT (drp (lst T k) (yf, yb)) (lst T k)) = false := by simp [hs]
            have hst2 : Hid (lst T (k + 1) = lst T k) := by show _ = _; rw [hst.out, if_neg hs]
            clear hs
            go_wp2_with fail
            refine (l2Same_any _ _ _ (lst T k) _ (hD.rows (fun _ => rfl)) (hO.rows (fun _ => rfl)) (drp_tok hLk.out _) hLk.out).mono ?_; rintro e w3 ⟨rfl, hb3⟩
            replace hF := hF.below hb3
            replace hO := hO.below hb3
            clear hb3 hD
            go_wp2
            go_roundw
            case rel => exact ⟨k + 1, by omega, by go_num, by rw [hst2.out]; exact hO, hF⟩
            case measure => simp [intOf]; omega
        · obtain rfl : k = n := by omega
          have hO2 : Hid (Own 29 wr w.heap.size u3 3 encE (lessT T)) := by
            show Own _ _ _ _ _ _ _; rw [hl.out, hn.out]; exact hO
          go_wp2
          go_ret
          exact ⟨_, rfl, hO2.out, hF.kp⟩
  · have d1 : decide (TOk T) = false := by simp [hT]
    have hl : Hid (lessT T = []) := by show _ = _; unfold lessT; rw [if_neg hT]
    clear hT
    have HV := Lib.hid hv
    clear hv
    go_enter Try.func33, Try.ntmps33
    go_wp2_with fail
    refine (sTableOk_any _ T _ HV.out.1).mono ?_; rintro e w1 ⟨rfl, hb1⟩
    replace hF := hF.below hb1
    clear hb1
    go_wp2
    go_ret
    exact ⟨_, rfl, by rw [hl.out]; exact Own.made _ _ _ _ _ hF.kp.size, (hF.other _).kp⟩
end Go.Proofs.Ytbhenfegklgkoaa
