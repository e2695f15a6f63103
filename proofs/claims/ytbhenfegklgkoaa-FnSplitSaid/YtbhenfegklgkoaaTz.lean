/- Tables: the program's TableLess. -/
import Derived.Test.YtbhenfegklgkoaaTy
set_option linter.unusedSimpArgs false
set_option linter.unusedVariables false
namespace Go.Proofs.Ytbhenfegklgkoaa
open Go.RowKit

/-- Where the program stands: R is the table as it is, k of it are kept, of T the first j are done. -/
structure At2 (T R : List Ent) (j k : Nat) : Prop where
  eq : R = lst T j
  rest : R.drop k = T.drop j
  len : R.length + j = T.length + k
  le : j ≤ T.length
theorem at2_0 (T : List Ent) : At2 T T 0 0 := ⟨rfl, rfl, rfl, Nat.zero_le _⟩
theorem At2.get {T R : List Ent} {j k : Nat} (h : At2 T R j k) {y : Ent} (hy : R[k]? = some y) : T[j]? = some y := by
  have e1 : (R.drop k)[0]? = some y := by rw [List.getElem?_drop]; exact hy
  rw [h.rest, List.getElem?_drop] at e1; exact e1
theorem At2.step {T R : List Ent} {j k : Nat} (h : At2 T R j k) (hR : TOk R) {y : Ent} (hy : R[k]? = some y) :
    drp R (y.1, y.2.1) = R.take k ++ R.drop (k + 1) ∧ (SmT (drp R (y.1, y.2.1)) R → At2 T (R.take k ++ R.drop (k + 1)) (j + 1) k) ∧ (¬ SmT (drp R (y.1, y.2.1)) R → At2 T R (j + 1) (k + 1)) := by
  have hd := drp_at (tok_srt hR) hy (f := y.1) (b := y.2.1) (by rw [eq_iff]; exact ⟨rfl, rfl⟩)
  have hT := h.get hy
  have hk := (List.getElem?_eq_some_iff.1 hy).1
  have hj := (List.getElem?_eq_some_iff.1 hT).1
  have hs : lst T (j + 1) = if SmT (drp R (y.1, y.2.1)) R then drp R (y.1, y.2.1) else R := by
    show (if _ then _ else _) = _; rw [getD_of hT, ← h.eq]
  have hr : R.drop (k + 1) = T.drop (j + 1) := by
    have := congrArg (List.drop 1) h.rest
    rw [List.drop_drop, List.drop_drop] at this
    exact this
  refine ⟨hd, fun g => ⟨?_, ?_, ?_, hj⟩, fun g => ⟨?_, hr, by have := h.len; omega, hj⟩⟩
  · rw [hs, if_pos g, hd]
  · rw [List.drop_append_of_le_length (by simp; omega), List.drop_of_length_le (by simp; omega), List.nil_append]; exact hr
  · have := h.len; simp; omega
  · rw [hs, if_neg g]
theorem At2.end_ {T R : List Ent} {j k : Nat} (h : At2 T R j k) (hk : R.length ≤ k) : R = lst T T.length := by
  have h1 := h.rest
  rw [List.drop_of_length_le hk] at h1
  have h2 := congrArg List.length h1
  rw [List.length_drop] at h2
  have h3 := h.le
  simp at h2
  rw [h.eq, show j = T.length by omega]
def slLen : Value → Nat | .slice _ n _ => n | _ => 0
set_option maxHeartbeats 8000000 in
theorem iTableLess_any (v : Value) (T : List Ent) (w : World) (hv : Tb w v T) :
    Calls Try.prog 32 #[v] w fun e w' => ∃ u, e = .returned u ∧ Own 29 w' w.heap.size u 3 encE (lessT T) ∧ Below w.heap.size w w' := by
  have hF := Fb.start w
  by_cases hT : TOk T
  · have d1 : decide (TOk T) = true := by simp [hT]
    have hl : Hid (lessT T = lst T T.length) := by show _ = _; unfold lessT; rw [if_pos hT]
    have HT := Lib.hid hT
    have hT12 := hT.2
    clear hT
    go_enter Try.func32, Try.ntmps32
    go_wp2_with fail
    refine (iTableOk_any _ T _ hv.1).mono ?_; rintro e w1 ⟨rfl, hb1⟩
    replace hF := hF.below hb1
    replace hv := hv.below hb1
    clear hb1
    go_wp2_with fail
    refine (Clone_any _ T _ hv (by omega)).mono ?_; rintro e w2 ⟨u, rfl, hO, hb2⟩
    have hs1 := hF.kp.size
    replace hF := hF.below hb2
    replace hO := hO.base (B := w.heap.size) hs1
    clear hb2 hv
    go_wp2
    go_loopw [3, 4] (fun s3 s4 wr => ∃ (k j : Nat) (R : List Ent), s4 = .int .i64 k ∧ k ≤ R.length ∧ Own 29 wr w.heap.size s3 3 encE R ∧ At2 T R j k ∧ Fb w wr []) (fun s3 s4 _ => slLen s3 - (intOf s4).toNat)
    case atStart => exact ⟨0, 0, T, rfl, Nat.zero_le _, hO, at2_0 T, hF⟩
    case round =>
      clear hF hO
      obtain ⟨k, j, R, rfl, hk, hO, hA, hF⟩ := hrel
      have hRok : TOk R := by rw [hA.eq]; exact lst_tok HT.out j
      have HR := Lib.hid hRok
      have HA := Lib.hid hA
      have hR12 := hRok.2
      obtain ⟨m, hm⟩ : ∃ m, Hid (R.length = m) := ⟨_, rfl⟩
      clear hA hRok
      by_cases hlt : k < m
      · obtain ⟨g, cg, hsl, hmc, hBg⟩ := own_some' hO hm.out (by omega)
        subst hsl
        obtain ⟨y, hy⟩ := get_of hm.out hlt
        have hst := Lib.hid (HA.out.step HR.out hy)
        clear hy
        have hm12 : m ≤ 12 := by have := hm.out; omega
        have hc63 : cg ≤ 9223372036854775807 := by
          obtain ⟨_, _, _, _, _, _, _, _, hcm, _⟩ := rowO hO
          unfold maxLen at hcm; omega
        have hsub := ents_sub (hO.rows (fun _ => rfl)) hm.out hmc hc63 hlt
        have hw1 : IntKind.i64.wrap ((k : Int) + 1) = (k : Int) + 1 := by rw [IntKind.wrap_i64]; omega
        have hb1 : (0 : Int) ≤ (k : Int) + 1 := by omega
        have htn : ((k : Int) + 1).toNat = k + 1 := by omega
        have hkn1 : k + 1 ≤ m := by omega
        have hltI : (k : Int) < (m : Int) := by omega
        have HSok : Hid (TOk (R.take k ++ R.drop (k + 1))) := by show TOk _; rw [← hst.out.1]; exact drp_tok HR.out _
        obtain ⟨q, hq⟩ : ∃ q, Hid ((R.take k ++ R.drop (k + 1)).length = q) := ⟨_, rfl⟩
        have hqm : q + 1 = m := by
          have h1 := hq.out
          have h2 := hm.out
          rw [List.length_append, List.length_take, List.length_drop] at h1
          omega
        have hqm1 : q ≤ m - 1 := by omega
        have hqm2 : m ≤ q + 1 := by omega
        clear hqm
        have HS1 := Lib.hid hsub.1
        have HS2 := Lib.hid hsub.2
        clear hsub
        by_cases hck : cg = k + 1
        · have hs1 : Hid (Ents wr (.slice (some ⟨g, 0, none⟩) k (k + 1)) (R.take k)) := by
            have := HS1.out; rwa [hck] at this
          have hs2 : Hid (Ents wr (.slice (some ⟨g, 0, none⟩) (m - (k + 1)) 0) (R.drop (k + 1))) := by
            have e1 : R.drop (k + 1) = [] := List.drop_eq_nil_of_le (by have := hm.out; omega)
            have e2 : m - (k + 1) = 0 := by omega
            rw [e1, e2]; exact Rows.nil _ _ _ (by omega) _ _
          clear HS1 HS2
          subst hck
          have HS1 := hs1
          have HS2 := hs2
          clear hs1 hs2
          go_wp2
          go_region_with ((go_at_call 62; go_must (refine (Concat_any _ g 0 k (k + 1) g 0 (m - (k + 1)) 0 (R.take k) (R.drop (k + 1)) _ (by first | (simp; done) | (simp; omega)) (HS1.out.below (Below.alloc (Below.refl _ _) (Nat.le_refl _) _).drew) (HS2.out.below (Below.alloc (Below.refl _ _) (Nat.le_refl _) _).drew) (by omega) (by omega)).mono ?_); rintro e wx ⟨u, rfl, hD, hbx⟩))
          all_goals
            have hs1 := hF.kp.size
            (try simp only [World.size_alloc, World.size_drew] at hs1)
            replace hF := ((hF.other _).drew).below hbx
            replace hO := ((hO.alloc _).drew).below hbx
            replace hD := hD.base (B := w.heap.size) (by simp only [World.size_alloc, World.size_drew]; omega)
            clear hbx
            obtain ⟨al, cl, hsl⟩ := hD.sl
            rw [hq.out] at hsl
            subst hsl
            go_wp2_with fail
            refine (trieOf_any _ (R.take k ++ R.drop (k + 1)) _ hD.tb.1 HSok.out).mono ?_; rintro e w4 ⟨rfl, ⟨nd1, ht1⟩, hb4⟩
            replace hF := hF.below hb4
            replace hO := hO.below hb4
            replace hD := hD.below hb4
            clear hb4
            go_wp2_with fail
            refine (trieOf_any _ R _ hO.tb.1 HR.out).mono ?_; rintro e w5 ⟨rfl, ⟨nd2, ht2⟩, hb5⟩
            replace hF := hF.below hb5
            replace hO := hO.below hb5
            replace hD := hD.below hb5
            replace ht1 := ht1.below hb5
            clear hb5
            by_cases hs : SmT (R.take k ++ R.drop (k + 1)) R
            · have d2 : decide (SmT (R.take k ++ R.drop (k + 1)) R) = true := decide_eq_true hs
              have hA2 : Hid (At2 T (R.take k ++ R.drop (k + 1)) (j + 1) k) := hst.out.2.1 (by rw [hst.out.1]; exact hs)
              clear hs
              go_wp2_with fail
              refine (sameHops_any _ _ _ _ _ _ _ _ _ ht1 ht2).mono ?_; rintro e w6 ⟨rfl, hb6⟩
              replace hF := hF.below hb6
              replace hD := hD.below hb6
              clear hb6 ht1 ht2 hO
              go_wp2
              go_roundw
              case rel => exact ⟨k, j + 1, _, by go_num, by rw [hq.out]; omega, hD, hA2.out, hF⟩
              case measure => simp [intOf, slLen]; omega
            · have d2 : decide (SmT (R.take k ++ R.drop (k + 1)) R) = false := decide_eq_false hs
              have hA2 : Hid (At2 T R (j + 1) (k + 1)) := hst.out.2.2 (by rw [hst.out.1]; exact hs)
              clear hs
              go_wp2_with fail
              refine (sameHops_any _ _ _ _ _ _ _ _ _ ht1 ht2).mono ?_; rintro e w6 ⟨rfl, hb6⟩
              replace hF := hF.below hb6
              replace hO := hO.below hb6
              clear hb6 ht1 ht2 hD
              go_wp2
              go_roundw
              case rel => exact ⟨k + 1, j + 1, R, by go_num, by rw [hm.out]; omega, hO, hA2.out, hF⟩
              case measure => simp [intOf, slLen]; omega
        · go_wp2
          go_region_with ((go_at_call 62; go_must (refine (Concat_any _ g 0 k cg g (0 + (k + 1) * 3) (m - (k + 1)) (cg - (k + 1)) (R.take k) (R.drop (k + 1)) _ (by first | (simp; done) | (simp; omega)) (HS1.out.below (Below.alloc (Below.refl _ _) (Nat.le_refl _) _).drew) (HS2.out.below (Below.alloc (Below.refl _ _) (Nat.le_refl _) _).drew) (by omega) (by omega)).mono ?_); rintro e wx ⟨u, rfl, hD, hbx⟩))
          all_goals
            have hs1 := hF.kp.size
            (try simp only [World.size_alloc, World.size_drew] at hs1)
            replace hF := ((hF.other _).drew).below hbx
            replace hO := ((hO.alloc _).drew).below hbx
            replace hD := hD.base (B := w.heap.size) (by simp only [World.size_alloc, World.size_drew]; omega)
            clear hbx
            obtain ⟨al, cl, hsl⟩ := hD.sl
            rw [hq.out] at hsl
            subst hsl
            go_wp2_with fail
            refine (trieOf_any _ (R.take k ++ R.drop (k + 1)) _ hD.tb.1 HSok.out).mono ?_; rintro e w4 ⟨rfl, ⟨nd1, ht1⟩, hb4⟩
            replace hF := hF.below hb4
            replace hO := hO.below hb4
            replace hD := hD.below hb4
            clear hb4
            go_wp2_with fail
            refine (trieOf_any _ R _ hO.tb.1 HR.out).mono ?_; rintro e w5 ⟨rfl, ⟨nd2, ht2⟩, hb5⟩
            replace hF := hF.below hb5
            replace hO := hO.below hb5
            replace hD := hD.below hb5
            replace ht1 := ht1.below hb5
            clear hb5
            by_cases hs : SmT (R.take k ++ R.drop (k + 1)) R
            · have d2 : decide (SmT (R.take k ++ R.drop (k + 1)) R) = true := decide_eq_true hs
              have hA2 : Hid (At2 T (R.take k ++ R.drop (k + 1)) (j + 1) k) := hst.out.2.1 (by rw [hst.out.1]; exact hs)
              clear hs
              go_wp2_with fail
              refine (sameHops_any _ _ _ _ _ _ _ _ _ ht1 ht2).mono ?_; rintro e w6 ⟨rfl, hb6⟩
              replace hF := hF.below hb6
              replace hD := hD.below hb6
              clear hb6 ht1 ht2 hO
              go_wp2
              go_roundw
              case rel => exact ⟨k, j + 1, _, by go_num, by rw [hq.out]; omega, hD, hA2.out, hF⟩
              case measure => simp [intOf, slLen]; omega
            · have d2 : decide (SmT (R.take k ++ R.drop (k + 1)) R) = false := decide_eq_false hs
              have hA2 : Hid (At2 T R (j + 1) (k + 1)) := hst.out.2.2 (by rw [hst.out.1]; exact hs)
              clear hs
              go_wp2_with fail
              refine (sameHops_any _ _ _ _ _ _ _ _ _ ht1 ht2).mono ?_; rintro e w6 ⟨rfl, hb6⟩
              replace hF := hF.below hb6
              replace hO := hO.below hb6
              clear hb6 ht1 ht2 hD
              go_wp2
              go_roundw
              case rel => exact ⟨k + 1, j + 1, R, by go_num, by rw [hm.out]; omega, hO, hA2.out, hF⟩
              case measure => simp [intOf, slLen]; omega
      · have hRl : Hid (R = lessT T) := by
          show _ = _; rw [hl.out]; exact HA.out.end_ (by have := hm.out; omega)
        obtain ⟨al, cl, hsl⟩ := hO.sl
        subst hsl
        rw [hm.out] at hO ⊢
        have hkm : k = m := by have := hm.out; omega
        subst hkm
        go_wp2
        go_ret
        exact ⟨_, rfl, by rw [← hRl.out]; exact hO, hF.kp⟩
  · have d1 : decide (TOk T) = false := by simp [hT]
    have hl : Hid (lessT T = []) := by show _ = _; unfold lessT; rw [if_neg hT]
    clear hT
    go_enter Try.func32, Try.ntmps32
    go_wp2_with fail
    refine (iTableOk_any _ T _ hv.1).mono ?_; rintro e w1 ⟨rfl, hb1⟩
    replace hF := hF.below hb1
    clear hb1
    go_wp2
    go_ret
    exact ⟨_, rfl, by rw [hl.out]; exact Own.nil _ _ _ _ _, hF.kp⟩
end Go.Proofs.Ytbhenfegklgkoaa
