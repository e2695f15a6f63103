/- Law on rings: FnRelsRing. -/
import Derived.Test.YtfckmgeakdbdfaaOe
import Derived.Test.YtfckmgeakdbdfaaOf
import Derived.Test.YtfckmgeakdbdfaaMt
import Derived.Test.YtfckmgeakdbdfaaB5
set_option linter.unusedSimpArgs false
set_option linter.unusedVariables false
namespace Go.Proofs.Ytfckmgeakdbdfaa
open Go.RowKit

theorem mid {M : List (List Int)} {h : Int} {r i k : Nat} {S0 T S N S' N' : List Int} {x : Int} (e0 : cround M h r = (S0, T)) (hi : i ≤ T.length) (e1 : crow M T (S0, []) i = (S, N)) (e2 : ccol M x (S, N) k = (S', N')) : S'.length ≤ M.length ∧ N'.length ≤ M.length := by
  have hr := rnd M h r
  rw [e0] at hr
  have g1 := srch_row M T (S0, []) i hi
  rw [e1] at g1
  have g2 := srch_col M x (S, N) k
  rw [e2] at g2
  have g := g1.trans g2
  have hl := nodup_len S' (upto M.length) (g.nod hr.nod) (fun y hy => mem_upto.2 (by
    rcases g.new1 y hy with h | ⟨⟨a, _, hr'⟩, _⟩
    · exact hr.bd y h
    · exact (relof_bts hr').2.2))
  rw [upto_len] at hl
  have := g.len
  simp only [List.length_nil] at this
  exact ⟨hl, by omega⟩
theorem cr_len {M : List (List Int)} {h : Int} {r : Nat} {S T : List Int} (e : cround M h r = (S, T)) : T.length ≤ M.length + 1 := by
  cases r with
  | zero =>
    have : T = [h] := by injection e with e1 e2; exact e2.symm
    rw [this]; simp
  | succ r =>
    have := mid (M := M) (h := h) (r := r) (x := 0) (k := 0) rfl (Nat.le_refl _) rfl rfl
    have e2 : T = (crow M (cround M h r).2 ((cround M h r).1, []) (cround M h r).2.length).2 := by
      have : (cround M h (r + 1)).2 = T := by rw [e]
      rw [← this]; rfl
    rw [e2]
    exact Nat.le_succ_of_le this.2
theorem atbd {M : List (List Int)} {h : Int} {r : Nat} {S0 T : List Int} (hh : Bts h 1 M.length) (e0 : cround M h r = (S0, T)) {x : Int} (hx : x ∈ T) : Bts x 1 M.length := by
  have hr := rnd M h r
  rw [e0] at hr
  rcases hr.on x hx with rfl | h
  · exact hh
  · exact hr.bd x h
theorem ring_law {M : List (List Int)} (hp : RelsP M) {r : Bool} (h : r = true ↔ ∃ q : Nat, q < M.length ∧ ((q : Int) + 1) ∈ seen M ((q : Int) + 1)) : decide (FreeP M) = !r := by
  have := free_ring hp
  cases r with
  | false =>
    simp only [Bool.false_eq_true, false_iff] at h
    exact decide_eq_true (this.2 fun q hq hm => h ⟨q, hq, hm⟩)
  | true =>
    obtain ⟨q, hq, hm⟩ := h.1 rfl
    exact decide_eq_false (fun g => this.1 g q hq hm)
theorem ring_step {M : List (List Int)} {r : Bool} {k : Nat} (h : r = true ↔ ∃ q : Nat, q < k ∧ ((q : Int) + 1) ∈ seen M ((q : Int) + 1)) {b : Bool} (hb : (r || decide (((k : Int) + 1) ∈ seen M ((k : Int) + 1))) = b) : b = true ↔ ∃ q : Nat, q < k + 1 ∧ ((q : Int) + 1) ∈ seen M ((q : Int) + 1) := by
  rw [← hb, Bool.or_eq_true, h, decide_eq_true_eq]
  constructor
  · rintro (⟨q, h1, h2⟩ | h1)
    · exact ⟨q, by omega, h2⟩
    · exact ⟨k, by omega, h1⟩
  · rintro ⟨q, h1, h2⟩
    by_cases e : q = k
    · subst e; exact Or.inr h2
    · exact Or.inl ⟨q, by omega, h2⟩
set_option maxHeartbeats 4000000 in
theorem FnRelsRing_walk (a0 : Option Addr) (n0 c0 : Nat) (w : World) (h0 : Given w (.slice a0 n0 c0)) :
    Calls Try.prog 10 #[.slice a0 n0 c0] w fun e w' => e = .returned (.bool true) ∧ Below w.heap.size w w' := by
  by_cases hn0 : 1048576 < n0
  · have e0 : decide (1048576 < (n0 : Int)) = true := by simp; omega
    go_enter Try.func10, Try.ntmps10
    go_wp2
    go_ret
    exact ⟨rfl, Below.refl _ _⟩
  have e0 : decide (1048576 < (n0 : Int)) = false := by simp; omega
  have hF := Fb.start w
  go_enter Try.func10, Try.ntmps10
  go_wp2_with fail
  refine (drawRels_any _ _ h0).mono ?_; rintro e w1 ⟨v, M, rfl, hM, hSq, hb1⟩
  replace hF := hF.below hb1
  clear hb1 h0 hSq
  obtain ⟨ao, n, cap, rfl, hn, hn63⟩ := hM.sl
  by_cases hp : RelsP M
  · have d1 : decide (RelsP M) = true := by simp [hp]
    have hn5 : n ≤ 5 := by have := hp.2.2; have := hn.out; omega
    have HP := Lib.hid hp
    clear hp
    obtain ⟨b, hb⟩ : ∃ b, Hid (decide (FreeP M) = b) := ⟨_, rfl⟩
    have db := hb.out
    go_wp2_with (first | (go_at_call 30; go_must (refine (iRelsFree_any _ M _ hM).mono ?_); rintro e wx ⟨rfl, hbx⟩; replace hM := hM.below hbx; replace hF := hF.below hbx; clear hbx) | (go_at_call 31; go_must (refine (sRelsFree_any _ M _ hM).mono ?_); rintro e wx ⟨rfl, hbx⟩; replace hM := hM.below hbx; replace hF := hF.below hbx; clear hbx) | (go_at_call 15; go_must (refine (sRelsOk_any _ M _ hM).mono ?_); rintro e wx ⟨rfl, hbx⟩; replace hM := hM.below hbx; replace hF := hF.below hbx; clear hbx))
    clear db d1
    have HM := Lib.hid hM
    have HF := Lib.hid hF
    clear hM hF
    obtain ⟨wa, rfl⟩ : ∃ wa : World, wa = wx := ⟨_, rfl⟩
    go_loopw [5, 6] (fun s5 s6 wr => ∃ (k : Nat) (r : Bool), k ≤ n ∧ s5 = .bool r ∧ s6 = .int .i64 ((k : Int) + 1) ∧ Hid (r = true ↔ ∃ q : Nat, q < k ∧ ((q : Int) + 1) ∈ seen M ((q : Int) + 1)) ∧ Below wa.heap.size wa wr) (fun _ s6 _ => n + 1 - (intOf s6).toNat)
    case atStart => exact ⟨0, false, Nat.zero_le _, rfl, rfl, by show _ ↔ _; simp, Below.refl _ _⟩
    case round =>
      obtain ⟨k, r, hk, rfl, rfl, hr, hB⟩ := hrel
      by_cases hlt : k < n
      · have hle : (k : Int) + 1 ≤ n := by omega
        have hh : Hid (Bts ((k : Int) + 1) 1 M.length) := by show Bts _ _ _; rw [hn.out]; exact ⟨by omega, hle⟩
        go_wp2
        obtain ⟨wb, rfl⟩ : ∃ wb : World, wb = wr := ⟨_, rfl⟩
        have hwab := hB.size
        have hS0 : Own 3 ((wb.alloc (.cells #[] 3)).alloc (.cells #[.int .i64 ((k : Int) + 1)] 3)) wb.heap.size (.slice (some ⟨wb.heap.size, 0, none⟩) 0 0) 1 encI [] := (Own.made _ _ _ _ _ (Nat.le_refl _)).alloc _
        have hT0 : Ints ((wb.alloc (.cells #[] 3)).alloc (.cells #[.int .i64 ((k : Int) + 1)] 3)) (.slice (some ⟨wb.heap.size + 1, 0, none⟩) 1 1) [(k : Int) + 1] := by
          have := (Own.lit 3 (wb.alloc (.cells #[] 3)) 0 1 encI [(k : Int) + 1] (fun _ => rfl) (Nat.zero_le _) (by simp)).rows (fun _ => rfl)
          rw [show (wb.alloc (.cells #[] 3)).heap.size = wb.heap.size + 1 by simp] at this
          exact this
        have hB0 : Below wa.heap.size wa ((wb.alloc (.cells #[] 3)).alloc (.cells #[.int .i64 ((k : Int) + 1)] 3)) := (hB.alloc hwab _).alloc (by simp; omega) _
        go_loopw [7, 8, 9] (fun s7 s8 s9 wr => ∃ (j m : Nat) (S T : List Int) (ta : Option Addr) (ct : Nat), j ≤ n ∧ s8 = .slice ta m ct ∧ s9 = .int .i64 j ∧ Hid (cround M ((k : Int) + 1) j = (S, T)) ∧ Hid (T.length = m) ∧ Own 3 wr wb.heap.size s7 1 encI S ∧ Hid (Ints wr (.slice ta m ct) T) ∧ Hid (Apart s7 (.slice ta m ct)) ∧ Hid (∀ g, (Value.slice ta m ct).ownBlock = some g → g < wr.heap.size) ∧ Below wa.heap.size wa wr ∧ wb.heap.size ≤ wr.heap.size) (fun _ _ s9 _ => n - (intOf s9).toNat)
        case atStart => exact ⟨0, 1, [], [(k : Int) + 1], _, _, Nat.zero_le _, rfl, rfl, rfl, rfl, hS0, hT0, (fun g h1 h2 => by simp [Value.ownBlock] at h1 h2; omega), (fun g h1 => by simp [Value.ownBlock] at h1; subst h1; simp), hB0, by simp; omega⟩
        case round =>
          clear hS0 hT0 hB0 hB
          obtain ⟨j, m, S, T, ta, ct, hj, rfl, rfl, hcr, hTm, hS, hT, hAp, hTl, hB, hsb⟩ := hrel
          have hm6 := cr_len hcr.out
          rw [hTm.out, hn.out] at hm6
          by_cases hlj : j < n
          · go_wp2
            obtain ⟨wc, rfl⟩ : ∃ wc : World, wc = wr := ⟨_, rfl⟩
            have hsa := hB.size
            have hN0 : Own 3 (wc.alloc (.cells #[] 3)) wc.heap.size (.slice (some ⟨wc.heap.size, 0, none⟩) 0 0) 1 encI [] := Own.made _ _ _ _ _ (Nat.le_refl _)
            have hB0 := hB.alloc hsa (.cells #[] 3)
            have HS := Lib.hid (hS.alloc (.cells #[] 3))
            have hAp2 : Hid (Apart u7 (.slice (some ⟨wc.heap.size, 0, none⟩) 0 0)) := fun g h1 h2 => by
              have := hS.lt g h1
              simp [Value.ownBlock] at h2; omega
            have hT0 := Lib.hid (hT.out.alloc (.cells #[] 3))
            clear hS
            go_loopw [7, 10, 11] (fun s7 s10 s11 wr => ∃ (i : Nat) (S' N : List Int), i ≤ m ∧ s11 = .int .i64 i ∧ Hid (crow M T (S, []) i = (S', N)) ∧ Own 3 wr wb.heap.size s7 1 encI S' ∧ Own 3 wr wc.heap.size s10 1 encI N ∧ Hid (Apart s7 (.slice ta m ct)) ∧ Hid (Apart s7 s10) ∧ Ints wr (.slice ta m ct) T ∧ Below wa.heap.size wa wr ∧ wc.heap.size ≤ wr.heap.size) (fun _ _ s11 _ => m - (intOf s11).toNat)
            case atStart => exact ⟨0, S, [], Nat.zero_le _, rfl, rfl, HS.out, hN0, hAp, hAp2, hT0.out, hB0, by simp⟩
            case round =>
              clear hN0 hB0 HS hAp2 hT0 hB hT hAp
              obtain ⟨i, S', N, hi, rfl, hcw, hS, hN, hAp, hAp2, hT, hB, hsc⟩ := hrel
              by_cases hli : i < m
              · obtain ⟨x, hx⟩ := get_of hTm.out hli
                have HX := Lib.hid hx
                have hxb := atbd hh.out hcr.out (List.mem_of_getElem? hx)
                rw [hn.out] at hxb
                obtain ⟨x1, x2⟩ := hxb
                have x3 : -1000000 ≤ x := by omega
                have x4 : x ≤ 1000000 := by omega
                obtain ⟨bt, ot, rfl⟩ := Ints.some hT (by omega)
                clear hx x1 x2
                go_wp2
                go_loopw [7, 10, 12] (fun s7 s10 s12 wr => ∃ (q : Nat) (S2 N2 : List Int), q ≤ n ∧ s12 = .int .i64 ((q : Int) + 1) ∧ Hid (ccol M x (S', N) q = (S2, N2)) ∧ Own 3 wr wb.heap.size s7 1 encI S2 ∧ Own 3 wr wc.heap.size s10 1 encI N2 ∧ Hid (Apart s7 (.slice (some ⟨bt, ot, none⟩) m ct)) ∧ Hid (Apart s7 s10) ∧ Ints wr (.slice (some ⟨bt, ot, none⟩) m ct) T ∧ Below wa.heap.size wa wr ∧ wc.heap.size ≤ wr.heap.size) (fun _ _ s12 _ => n + 1 - (intOf s12).toNat)
                case atStart => exact ⟨0, S', N, Nat.zero_le _, rfl, rfl, hS, hN, hAp, hAp2, hT, hB, hsc⟩
                case round =>
                  clear hS hN hAp hAp2 hT hB hsc
                  obtain ⟨q, S2, N2, hq, rfl, hcc, hS, hN, hAp, hAp2, hT, hB, hsc⟩ := hrel
                  have hml := mid hcr.out (by rw [hTm.out]; exact hi) hcw.out hcc.out
                  rw [hn.out] at hml
                  obtain ⟨l1, l2⟩ := hml
                  have c0 := Ints.get hT HX.out
                  by_cases hlq : q < n
                  · have hle2 : (q : Int) + 1 ≤ n := by omega
                    have q3 : -1000000 ≤ (q : Int) + 1 := by omega
                    have q4 : (q : Int) + 1 ≤ 1000000 := by omega
                    by_cases hr1 : relof M x ((q : Int) + 1) = 1
                    · have r1 : (relof M x ((q : Int) + 1) == 1) = true := by simp [hr1]
                      by_cases hm : ((q : Int) + 1) ∈ S2
                      · have d1 : decide (((q : Int) + 1) ∈ S2) = true := by simp [hm]
                        have hcn := Lib.hid (ccol_no hcc.out (fun g => g.2 hm))
                        clear hr1 hm
                        go_wp2_with (first | (go_at_call 17; go_must (refine (iRelOf_any _ M _ _ _ (HM.out.below hB) x3 x4 q3 q4).mono ?_); rintro e wx ⟨rfl, hbx⟩; replace hB := hB.trans (hbx.mono hB.size); replace hS := hS.below hbx; replace hN := hN.below hbx; replace hT := hT.below hbx; have hsx := hbx.size; clear hbx) | (go_at_call 32; go_must (refine (lyIn_any _ _ _ _ (hS.rows (fun _ => rfl))).mono ?_); rintro e wx ⟨rfl, hbx⟩; replace hB := hB.trans (hbx.mono hB.size); replace hS := hS.below hbx; replace hN := hN.below hbx; replace hT := hT.below hbx; have hsx := hbx.size; clear hbx))
                        go_roundw
                        case rel => exact ⟨q + 1, S2, N2, by omega, by go_num, hcn, hS, hN, hAp, hAp2, hT, hB, by omega⟩
                        case measure => simp [intOf]; omega
                      · have d1 : decide (((q : Int) + 1) ∈ S2) = false := by simp [hm]
                        have hcn := Lib.hid (ccol_yes hcc.out hr1 hm)
                        clear hr1 hm
                        have hAq := hAp.out
                        have hsab := hB.size
                        go_wp2_with (first | (go_at_call 17; go_must (refine (iRelOf_any _ M _ _ _ (HM.out.below hB) x3 x4 q3 q4).mono ?_); rintro e wx ⟨rfl, hbx⟩; replace hB := hB.trans (hbx.mono hB.size); replace hS := hS.below hbx; replace hN := hN.below hbx; replace hT := hT.below hbx; have hsx := hbx.size; clear hbx) | (go_at_call 32; go_must (refine (lyIn_any _ _ _ _ (hS.rows (fun _ => rfl))).mono ?_); rintro e wx ⟨rfl, hbx⟩; replace hB := hB.trans (hbx.mono hB.size); replace hS := hS.below hbx; replace hN := hN.below hbx; replace hT := hT.below hbx; have hsx := hbx.size; clear hbx) | (at_builtin; refine wpList_app rfl _ _ 26 rfl 3 (.int .i64 0) 1 8 Try.underlying26 infoInt rfl (by decide) (by decide) wb.heap.size encI _ _ rfl (hS.alloc _) ((q : Int) + 1) ⟨_, 0, none⟩ 1 rfl rfl (cells_new _ _ _) (by simp [encI, Value.oneCell']) (by omega) (by simp only [World.size_alloc]; omega) ?_; intro v' wx hO1 hg1 hb1 hf1; (have hsx := hb1.size; simp only [World.size_alloc] at hsx; replace hAp := Lib.hid (hAp.out.frsh' hf1 (fun g h => by have := hTl.out g h; simp only [World.size_alloc]; omega)); replace hT := Rows.grown (hT.alloc _) hg1 hAq.symm; replace hAq := hAp.out; have hA3 := hAp2.out.frsh' hf1 ((hN.alloc _).lt); replace hN := (hN.alloc _).grown hg1 hAp2.out.symm; replace hAp2 := Lib.hid hA3; replace hS := hO1; replace hB := (hB.alloc (by omega) _).trans (hb1.mono (by omega)); clear hO1 hg1 hb1 hf1 hA3)) | (at_builtin; refine wpList_app rfl _ _ 26 rfl 3 (.int .i64 0) 1 8 Try.underlying26 infoInt rfl (by decide) (by decide) wc.heap.size encI _ _ rfl (hN.alloc _) ((q : Int) + 1) ⟨_, 0, none⟩ 1 rfl rfl (cells_new _ _ _) (by simp [encI, Value.oneCell']) (by omega) (by simp only [World.size_alloc]; omega) ?_; intro v' wx hO1 hg1 hb1 hf1; (have hsx := hb1.size; simp only [World.size_alloc] at hsx; replace hT := Rows.grown (hT.alloc _) hg1 (apart_lt hTl.out hN.ge); have hA3 := hAp2.out.frsh hf1 ((hS.alloc _).lt); replace hS := (hS.alloc _).grown hg1 hAp2.out; replace hAp2 := Lib.hid hA3; replace hN := hO1; replace hB := (hB.alloc (by omega) _).trans (hb1.mono (by omega)); clear hO1 hg1 hb1 hf1 hA3)))
                        go_roundw
                        case rel => exact ⟨q + 1, _, _, by omega, by go_num, hcn, hS, hN, hAp, hAp2, hT, hB, by omega⟩
                        case measure => simp [intOf]; omega
                    · have r1 : (relof M x ((q : Int) + 1) == 1) = false := by simp [hr1]
                      have hcn := Lib.hid (ccol_no hcc.out (fun g => hr1 g.1))
                      clear hr1
                      go_wp2_with (first | (go_at_call 17; go_must (refine (iRelOf_any _ M _ _ _ (HM.out.below hB) x3 x4 q3 q4).mono ?_); rintro e wx ⟨rfl, hbx⟩; replace hB := hB.trans (hbx.mono hB.size); replace hS := hS.below hbx; replace hN := hN.below hbx; replace hT := hT.below hbx; have hsx := hbx.size; clear hbx))
                      go_roundw
                      case rel => exact ⟨q + 1, S2, N2, by omega, by go_num, hcn, hS, hN, hAp, hAp2, hT, hB, by omega⟩
                      case measure => simp [intOf]; omega
                  · obtain rfl : q = n := by omega
                    have hcn : Hid (crow M T (S, []) (i + 1) = (S2, N2)) := by
                      show _ = _; rw [crow_step HX.out, hcw.out, hn.out]; exact hcc.out
                    go_wp2
                    go_roundw
                    case rel => exact ⟨i + 1, S2, N2, by omega, by go_num, hcn, hS, hN, hAp, hAp2, hT, hB, hsc⟩
                    case measure => simp [intOf]; omega
              · obtain rfl : i = m := by omega
                have hcn : Hid (cround M ((k : Int) + 1) (j + 1) = (S', N)) := by
                  show crow M (cround M _ j).2 ((cround M _ j).1, []) (cround M _ j).2.length = _
                  rw [hcr.out]; dsimp only; rw [hTm.out]; exact hcw.out
                obtain ⟨na, nc, rfl⟩ := hN.sl
                have HN := Lib.hid (hN.rows (fun _ => rfl))
                have HL := Lib.hid hN.lt
                go_wp2
                go_roundw
                case rel => exact ⟨j + 1, _, S', N, _, _, by omega, rfl, by go_num, hcn, rfl, hS, HN, hAp2, HL, hB, by omega⟩
                case measure => simp [intOf]; omega
          · obtain rfl : j = n := by omega
            have hsn : Hid (seen M ((k : Int) + 1) = S) := by show (cround M _ M.length).1 = S; rw [hn.out, hcr.out]
            have hI := hS.rows (fun _ => rfl)
            cases r
            · obtain ⟨b2, hb2⟩ : ∃ b2, decide (((k : Int) + 1) ∈ S) = b2 := ⟨_, rfl⟩
              have hst := Lib.hid (ring_step (b := b2) hr.out (by rw [hsn.out, hb2]; rfl))
              go_wp2_with (go_at_call 32; go_must (refine (lyIn_any _ _ _ _ hI).mono ?_); rintro e wx ⟨rfl, hbx⟩; replace hB := hB.trans (hbx.mono hB.size); clear hbx)
              go_roundw
              case rel => exact ⟨k + 1, b2, by omega, rfl, by go_num, hst, hB⟩
              case measure => simp [intOf]; omega
            · have hst := Lib.hid (ring_step (b := true) hr.out (by simp))
              go_wp2
              go_roundw
              case rel => exact ⟨k + 1, true, by omega, rfl, by go_num, hst, hB⟩
              case measure => simp [intOf]; omega
      · obtain rfl : k = n := by omega
        have hlaw : Hid ((b == !r) = true) := by
          show _ = _
          rw [← hb.out, ring_law HP.out (by rw [hn.out]; exact hr.out)]; simp
        have hl := hlaw.out
        go_wp2
        go_ret
        exact ⟨rfl, (HF.out.below hB).kp⟩
  · have d1 : decide (RelsP M) = false := by simp [hp]
    have d2 : decide (FreeP M) = false := decide_eq_false (fun g => hp g.1)
    clear hp
    go_wp2_with (first | (go_at_call 30; go_must (refine (iRelsFree_any _ M _ hM).mono ?_); rintro e wx ⟨rfl, hbx⟩; replace hM := hM.below hbx; replace hF := hF.below hbx; clear hbx) | (go_at_call 31; go_must (refine (sRelsFree_any _ M _ hM).mono ?_); rintro e wx ⟨rfl, hbx⟩; replace hM := hM.below hbx; replace hF := hF.below hbx; clear hbx) | (go_at_call 15; go_must (refine (sRelsOk_any _ M _ hM).mono ?_); rintro e wx ⟨rfl, hbx⟩; replace hM := hM.below hbx; replace hF := hF.below hbx; clear hbx))
    go_ret
    exact ⟨rfl, hF.kp⟩
end Go.Proofs.Ytfckmgeakdbdfaa
