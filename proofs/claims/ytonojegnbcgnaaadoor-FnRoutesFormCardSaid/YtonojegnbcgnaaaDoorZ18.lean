/- FnRoutesForm: the walk. -/
import Derived.Test.YtonojegnbcgnaaaDoorZ17
import Derived.Deep.RegionHeld3
set_option linter.unusedSimpArgs false
set_option linter.unusedVariables false
namespace Go.Proofs.YtonojegnbcgnaaaDoor
open Go.RowKit

theorem rows_tk {α : Type} {w : World} {b off n c sz : Nat} {enc : α → List Value} {L : List α} (h : Rows w (.slice (some ⟨b, off, none⟩) n c) sz enc L) {k : Nat} (hk : k ≤ n) : Rows w (.slice (some ⟨b, off, none⟩) k c) sz enc (L.take k) := by
  obtain ⟨ao, cap, e, h1, h2, _⟩ := h.ex
  injection e with e1 e2 e3
  have := h.sub (i := 0) (j := k) (c' := c) (Nat.zero_le _) hk (by omega) (by omega)
  simpa using this
theorem rows_dr {α : Type} {w : World} {b off n c sz : Nat} {enc : α → List Value} {L : List α} (h : Rows w (.slice (some ⟨b, off, none⟩) n c) sz enc L) {k : Nat} (hk : k ≤ n) : Rows w (.slice (some ⟨b, off + k * sz, none⟩) (n - k) (c - k)) sz enc (L.drop k) := by
  obtain ⟨ao, cap, e, h1, h2, _⟩ := h.ex
  injection e with e1 e2 e3
  have := h.sub (i := k) (j := n) (c' := c - k) hk (Nat.le_refl _) (by omega) (by omega)
  rwa [List.take_of_length_le (by omega)] at this
/-- A new row of some of the elements of an old one. -/
theorem gls_part {w w' : World} {B U R : Nat} {E : TypeId} {v u : Value} {ds es : List RtD} {L K : List Rt} (h : GRel shRt w B U v ds L) (hb : Below w.heap.size w w') (hO : Own E w' R u 5 encRt es) (hl : es.length = K.length) (hk : ∀ (k : Nat) (s : Rt), K[k]? = some s → ∃ j : Nat, L[j]? = some s ∧ es[k]? = ds[j]?) : Rts w' u K :=
  ⟨es, hO.rows (fun _ => rfl), hl, fun k s hs => by
    obtain ⟨j, h1, h2⟩ := hk k s hs
    obtain ⟨d, a, b, -⟩ := h.2 j s h1
    exact ⟨d, h2.trans a, Sh.below b hb⟩⟩
theorem part_two {α β : Type} {ds : List α} {L : List β} (h : ds.length = L.length) (i j : Nat) (hi : i ≤ L.length) (hj : j ≤ L.length) : (ds.take i ++ ds.drop j).length = (L.take i ++ L.drop j).length ∧ ∀ (k : Nat) (s : β), (L.take i ++ L.drop j)[k]? = some s → ∃ m : Nat, L[m]? = some s ∧ (ds.take i ++ ds.drop j)[k]? = ds[m]? := by
  refine ⟨by simp [h], fun k s hs => ?_⟩
  by_cases hk : k < i
  · rw [List.getElem?_append_left (by simp; omega), List.getElem?_take, if_pos hk] at hs
    exact ⟨k, hs, by rw [List.getElem?_append_left (by simp; omega), List.getElem?_take, if_pos hk]⟩
  · have e : (L.take i).length = i := by simp; omega
    have e2 : (ds.take i).length = i := by simp; omega
    rw [List.getElem?_append_right (by omega), List.getElem?_drop, e] at hs
    exact ⟨j + (k - i), hs, by rw [List.getElem?_append_right (by omega), List.getElem?_drop, e2]⟩
set_option maxRecDepth 100000 in
set_option maxHeartbeats 8000000 in
theorem FnRoutesForm_walk (a0 a1 : Option Addr) (n0 c0 n1 c1 : Nat) (a : Addr) (w : World) (h0 : Given w (.slice a0 n0 c0)) (h1 : Given w (.slice a1 n1 c1)) (hE : EPath w a) :
    Calls Tryd.prog 7 #[.slice a0 n0 c0, .slice a1 n1 c1] w fun e w' => e = .returned (.bool true) ∧ Below w.heap.size w w' := by
  by_cases hn0 : 1048576 < n0
  · have e0 : decide (1048576 < (n0 : Int)) = true := by simp; omega
    go_enter Tryd.func7, Tryd.ntmps7
    go_wp2
    go_ret
    exact ⟨rfl, Below.refl _ _⟩
  have e0 : decide (1048576 < (n0 : Int)) = false := by simp; omega
  by_cases hn1 : 1048576 < n1
  · have e1 : decide (1048576 < (n1 : Int)) = true := by simp; omega
    go_enter Tryd.func7, Tryd.ntmps7
    go_wp2
    go_ret
    exact ⟨rfl, Below.refl _ _⟩
  have e1 : decide (1048576 < (n1 : Int)) = false := by simp; omega
  clear h1
  have hF := Fb.start w
  go_enter Tryd.func7, Tryd.ntmps7
  go_wp2_with fail
  refine (drawRoutesOk_any _ _ h0).mono ?_; rintro e w1 ⟨v, L, rfl, hO, hL9, hb1⟩
  clear h0
  replace hF := hF.below hb1
  replace hE := hE.below hb1
  clear hb1
  go_wp2_with fail
  refine (iRoutesOk_any v L a w1 hO.gls hE).mono ?_; rintro e w2 ⟨rfl, hb2⟩
  replace hF := hF.below hb2
  replace hE := hE.below hb2
  replace hO := hO.below hb2
  clear hb2
  obtain ⟨bo, hbo⟩ : ∃ bo, decide (RsOk L) = bo := ⟨_, rfl⟩
  rw [hbo]
  have HB := Lib.hid hbo
  clear hbo
  go_wp2_with fail
  refine (sRoutesOk_any v L w2 hO.gls).mono ?_; rintro e w3 ⟨rfl, hb3⟩
  rw [HB.out]
  replace hF := hF.below hb3
  replace hE := hE.below hb3
  replace hO := hO.below hb3
  clear hb3
  obtain ⟨ao, cap, rfl⟩ := hO.sl
  obtain ⟨n, hn⟩ : ∃ n, Hid (L.length = n) := ⟨_, rfl⟩
  rw [hn.out] at hO hL9 ⊢
  cases bo with
  | false =>
    go_wp2_with fail
    refine (sRoutesOk_any _ L w3 hO.gls).mono ?_; rintro e w4 ⟨rfl, hb4⟩
    rw [HB.out]
    replace hF := hF.below hb4
    go_wp2
    go_ret
    exact ⟨rfl, hF.kp⟩
  | true =>
    have hok := Lib.hid (of_decide_eq_true HB.out)
    by_cases hz0 : n = 0
    · subst hz0
      go_wp2_with fail
      refine (sRoutesOk_any _ L w3 hO.gls).mono ?_; rintro e w4 ⟨rfl, hb4⟩
      rw [HB.out]
      replace hF := hF.below hb4
      go_wp2
      go_ret
      exact ⟨rfl, hF.kp⟩
    · have d0 : ((n : Int) == 0) = false := by simp; omega
      obtain ⟨ds, hOw, hRl⟩ := hO
      have hdl : ds.length = n := hRl.1.trans hn.out
      rcases hOw.two with ⟨e, hnil⟩ | ⟨g9, uc, m, e, hmc, hm⟩
      · exfalso; rw [hnil] at hdl; simp at hdl; omega
      injection e with e1 e2 e3
      subst e1; subst e2; subst e3
      obtain ⟨k, hk⟩ : ∃ k : Nat, (n1 : Int) % (n : Int) = (k : Int) := ⟨n1 % n, by simp⟩
      have hnp : 0 < (n : Int) := by omega
      have hkn : k < n := by
        have := Int.emod_lt_of_pos (n1 : Int) hnp
        omega
      obtain ⟨wb, hwb⟩ : ∃ wb : World, wb = w3 := ⟨_, rfl⟩
      rw [← hwb] at hF hE hOw hRl ⊢
      clear hwb hm
      have HW := Lib.hid hF
      have HE := Lib.hid hE
      go_upto_region 8 with (fail)
      rw [hk]
      have hRo := hOw.rows (fun _ => rfl)
      have HRo := Lib.hid hRo
      have HRl := Lib.hid hRl
      have HDL := Lib.hid hdl
      have g0 : (0 : Int) ≤ (k : Int) := by omega
      have g1 : (k : Int) ≤ (cap : Int) := by omega
      have g2 : (k : Int) + 1 ≤ (n : Int) := by omega
      have g4 : IntKind.i64.wrap ((k : Int) + 1) = (k : Int) + 1 := IntWalk.i64_in _ (by omega)
      have g5 : ((k : Int) + 1).toNat = k + 1 := by omega
      have g6 : (0 : Int) ≤ (k : Int) + 1 := by omega
      have g7 : (n : Int) ≤ (cap : Int) := by omega
      have g8 : (k : Int) + 1 ≤ (cap : Int) := by omega
      have g10 : (k : Int) ≤ (n : Int) := by omega
      have hLn := hn.out
      have HLn := hn
      clear hF hE hk hnp hdl hRo hRl hOw
      go_cut [5, 8] (fun s5 s8 wx => s5 = .slice (some ⟨g9, 0, none⟩) n cap ∧ ∃ u : Value, s8 = u ∧ Rts wx u (L.take k ++ L.drop (k + 1)) ∧ Below wb.heap.size wb wx)
      case first =>
        have hT1 := Lib.hid (rows_tk HRo.out (k := k) (by omega))
        have hT2 := Lib.hid (rows_dr HRo.out (k := k + 1) (by omega))
        have hOne1 := Lib.hid (fun d (hd : d ∈ ds.take k) => HRl.out.one d (List.mem_of_mem_take hd))
        have hOne2 := Lib.hid (fun d (hd : d ∈ ds.drop (k + 1)) => HRl.out.one d (List.mem_of_mem_drop hd))
        have hQ := Fb.start wb
        have tok2 : True := trivial
        have tok3 : True := trivial
        by_cases hcap : cap = k + 1
        · have hcn : n = k + 1 := by omega
          have hT3 : Hid (Rows wb (.slice (some ⟨g9, 0, none⟩) 0 0) 5 encRt (ds.drop (k + 1))) := by
            have e : ds.drop (k + 1) = [] := List.drop_eq_nil_of_le (by rw [HDL.out]; omega)
            show Rows _ _ _ _ _
            rw [e]; exact Rows.nil _ _ _ (by omega) _ _
          have hcap2 : k + 1 = cap := hcap.symm
          have hcn2 : n = cap := by omega
          clear hcap hcn
          go_region_held3 (fun _ => True) (trivial)
            (first
              | (clear tok2; refine step_appsM (by rfl) _ _ 34 (by rfl) 27 (.agg #[.int .i64 0, .int .i64 0, .slice none 0 0, .int .i64 0, .slice none 0 0]) 5 72 Tryd.underlying34 infoRt rfl (by decide) (by decide) wb.heap.size encRt (fun _ => rfl) (.slice (some ⟨wb.heap.size, 0, none⟩) 0 0) [] (by rfl) (Own.drew (Own.made _ wb _ _ _ (Nat.le_refl _))) g9 0 (k) cap (ds.take (k)) hOne1.out (by rfl) (hT1.out.below (Fb.kp (W := wb) (L := []) (by repeat (first | assumption | apply Fb.alloc_1 | apply Fb.alloc_2 | apply Fb.alloc_3 | apply Fb.alloc_4 | apply Fb.alloc_5 | apply Fb.alloc_8 | apply Fb.drew | apply Fb.drewN | apply Fb.other)))) (by simp; omega) (Below.size (Fb.kp (W := wb) (L := []) (by repeat (first | assumption | apply Fb.alloc_1 | apply Fb.alloc_2 | apply Fb.alloc_3 | apply Fb.alloc_4 | apply Fb.alloc_5 | apply Fb.alloc_8 | apply Fb.drew | apply Fb.drewN | apply Fb.other)))) ?_; intro v8 w8 hO8 hg8 hb8 hf8; rw [List.nil_append] at hO8; have hQ8 : Below wb.heap.size wb w8 := Below.trans (Fb.kp (W := wb) (L := []) (by repeat (first | assumption | apply Fb.alloc_1 | apply Fb.alloc_2 | apply Fb.alloc_3 | apply Fb.alloc_4 | apply Fb.alloc_5 | apply Fb.alloc_8 | apply Fb.drew | apply Fb.drewN | apply Fb.other))) hb8; clear hg8 hb8 hf8)
              | (clear tok3; refine step_appsM (by rfl) _ _ 34 (by rfl) 27 (.agg #[.int .i64 0, .int .i64 0, .slice none 0 0, .int .i64 0, .slice none 0 0]) 5 72 Tryd.underlying34 infoRt rfl (by decide) (by decide) wb.heap.size encRt (fun _ => rfl) v8 (ds.take (k)) (by rfl) hO8 g9 0 0 0 (ds.drop (k + 1)) hOne2.out (by rfl) (hT3.out.below hQ8) (by rw [List.length_take]; omega) hQ8.size ?_; intro v9 w9 hO9 hg9 hb9 hf9; have hQ9 : Below wb.heap.size wb w9 := hQ8.trans hb9; clear hg9 hb9 hf9))
          all_goals
            have hS9 : Rts w9 v9 (L.take (k) ++ L.drop (k + 1)) := gls_part HRl.out hQ9 hO9 (part_two HRl.out.1 _ _ (by omega) (by omega)).1 (part_two HRl.out.1 _ _ (by omega) (by omega)).2
            go_wp2_with fail
            go_meet
            case rel => exact ⟨by first | rfl | (rw [hcn2]), v9, rfl, hS9, hQ9⟩
        · have hT3 : Hid (Rows wb (.slice (some ⟨g9, (k + 1) * 5, none⟩) (n - (k + 1)) (cap - (k + 1))) 5 encRt (ds.drop (k + 1))) := by
            have := hT2.out
            rw [Nat.zero_add] at this
            exact this
          go_region_held3 (fun _ => True) (trivial)
            (first
              | (clear tok2; refine step_appsM (by rfl) _ _ 34 (by rfl) 27 (.agg #[.int .i64 0, .int .i64 0, .slice none 0 0, .int .i64 0, .slice none 0 0]) 5 72 Tryd.underlying34 infoRt rfl (by decide) (by decide) wb.heap.size encRt (fun _ => rfl) (.slice (some ⟨wb.heap.size, 0, none⟩) 0 0) [] (by rfl) (Own.drew (Own.made _ wb _ _ _ (Nat.le_refl _))) g9 0 (k) cap (ds.take (k)) hOne1.out (by rfl) (hT1.out.below (Fb.kp (W := wb) (L := []) (by repeat (first | assumption | apply Fb.alloc_1 | apply Fb.alloc_2 | apply Fb.alloc_3 | apply Fb.alloc_4 | apply Fb.alloc_5 | apply Fb.alloc_8 | apply Fb.drew | apply Fb.drewN | apply Fb.other)))) (by simp; omega) (Below.size (Fb.kp (W := wb) (L := []) (by repeat (first | assumption | apply Fb.alloc_1 | apply Fb.alloc_2 | apply Fb.alloc_3 | apply Fb.alloc_4 | apply Fb.alloc_5 | apply Fb.alloc_8 | apply Fb.drew | apply Fb.drewN | apply Fb.other)))) ?_; intro v8 w8 hO8 hg8 hb8 hf8; rw [List.nil_append] at hO8; have hQ8 : Below wb.heap.size wb w8 := Below.trans (Fb.kp (W := wb) (L := []) (by repeat (first | assumption | apply Fb.alloc_1 | apply Fb.alloc_2 | apply Fb.alloc_3 | apply Fb.alloc_4 | apply Fb.alloc_5 | apply Fb.alloc_8 | apply Fb.drew | apply Fb.drewN | apply Fb.other))) hb8; clear hg8 hb8 hf8)
              | (clear tok3; refine step_appsM (by rfl) _ _ 34 (by rfl) 27 (.agg #[.int .i64 0, .int .i64 0, .slice none 0 0, .int .i64 0, .slice none 0 0]) 5 72 Tryd.underlying34 infoRt rfl (by decide) (by decide) wb.heap.size encRt (fun _ => rfl) v8 (ds.take (k)) (by rfl) hO8 g9 ((k + 1) * 5) (n - (k + 1)) (cap - (k + 1)) (ds.drop (k + 1)) hOne2.out (by rfl) (hT3.out.below hQ8) (by rw [List.length_take]; omega) hQ8.size ?_; intro v9 w9 hO9 hg9 hb9 hf9; have hQ9 : Below wb.heap.size wb w9 := hQ8.trans hb9; clear hg9 hb9 hf9))
          all_goals
            have hS9 : Rts w9 v9 (L.take (k) ++ L.drop (k + 1)) := gls_part HRl.out hQ9 hO9 (part_two HRl.out.1 _ _ (by omega) (by omega)).1 (part_two HRl.out.1 _ _ (by omega) (by omega)).2
            go_wp2_with fail
            go_meet
            case rel => exact ⟨by first | rfl | (rw [hcn2]), v9, rfl, hS9, hQ9⟩
      case rest =>
        obtain ⟨rfl, u8, rfl, hS8, hb8⟩ := hcut
        replace HW := Lib.hid (HW.out.below hb8)
        replace HE := Lib.hid (HE.out.below hb8)
        replace HRo := Lib.hid (HRo.out.below hb8)
        replace HRl := Lib.hid ((HRl.out.below hb8).mono (Nat.le_refl _) hb8.size)
        obtain ⟨wb, hwb⟩ : ∃ wb : World, wb = wc := ⟨_, rfl⟩
        rw [← hwb] at HW HE HRo HRl hS8 ⊢
        clear hwb hb8
        have HS8 := Lib.hid hS8
        clear hS8
        go_upto_region 9 with (fail)
        go_cut [5, 9] (fun s5 s9 wx => s5 = .slice (some ⟨g9, 0, none⟩) n cap ∧ ∃ u : Value, s9 = u ∧ Rts wx u (L.take (k + 1) ++ L.drop k) ∧ Below wb.heap.size wb wx)
        case first =>
          have hT1 := Lib.hid (rows_tk HRo.out (k := k + 1) (by omega))
          have hT2 := Lib.hid (rows_dr HRo.out (k := k) (by omega))
          have hOne1 := Lib.hid (fun d (hd : d ∈ ds.take (k + 1)) => HRl.out.one d (List.mem_of_mem_take hd))
          have hOne2 := Lib.hid (fun d (hd : d ∈ ds.drop k) => HRl.out.one d (List.mem_of_mem_drop hd))
          have hQ := Fb.start wb
          have tok2 : True := trivial
          have tok3 : True := trivial
          have hkc : ¬ (cap = k) := by omega
          have hT3 : Hid (Rows wb (.slice (some ⟨g9, k * 5, none⟩) (n - k) (cap - k)) 5 encRt (ds.drop k)) := by
            have := hT2.out
            rw [Nat.zero_add] at this
            exact this
          have hcn2 : True := trivial
          go_region_held3 (fun _ => True) (trivial)
            (first
              | (clear tok2; refine step_appsM (by rfl) _ _ 34 (by rfl) 27 (.agg #[.int .i64 0, .int .i64 0, .slice none 0 0, .int .i64 0, .slice none 0 0]) 5 72 Tryd.underlying34 infoRt rfl (by decide) (by decide) wb.heap.size encRt (fun _ => rfl) (.slice (some ⟨wb.heap.size, 0, none⟩) 0 0) [] (by rfl) (Own.drew (Own.made _ wb _ _ _ (Nat.le_refl _))) g9 0 (k + 1) cap (ds.take (k + 1)) hOne1.out (by rfl) (hT1.out.below (Fb.kp (W := wb) (L := []) (by repeat (first | assumption | apply Fb.alloc_1 | apply Fb.alloc_2 | apply Fb.alloc_3 | apply Fb.alloc_4 | apply Fb.alloc_5 | apply Fb.alloc_8 | apply Fb.drew | apply Fb.drewN | apply Fb.other)))) (by simp; omega) (Below.size (Fb.kp (W := wb) (L := []) (by repeat (first | assumption | apply Fb.alloc_1 | apply Fb.alloc_2 | apply Fb.alloc_3 | apply Fb.alloc_4 | apply Fb.alloc_5 | apply Fb.alloc_8 | apply Fb.drew | apply Fb.drewN | apply Fb.other)))) ?_; intro v8 w8 hO8 hg8 hb8 hf8; rw [List.nil_append] at hO8; have hQ8 : Below wb.heap.size wb w8 := Below.trans (Fb.kp (W := wb) (L := []) (by repeat (first | assumption | apply Fb.alloc_1 | apply Fb.alloc_2 | apply Fb.alloc_3 | apply Fb.alloc_4 | apply Fb.alloc_5 | apply Fb.alloc_8 | apply Fb.drew | apply Fb.drewN | apply Fb.other))) hb8; clear hg8 hb8 hf8)
              | (clear tok3; refine step_appsM (by rfl) _ _ 34 (by rfl) 27 (.agg #[.int .i64 0, .int .i64 0, .slice none 0 0, .int .i64 0, .slice none 0 0]) 5 72 Tryd.underlying34 infoRt rfl (by decide) (by decide) wb.heap.size encRt (fun _ => rfl) v8 (ds.take (k + 1)) (by rfl) hO8 g9 (k * 5) (n - k) (cap - k) (ds.drop (k)) hOne2.out (by rfl) (hT3.out.below hQ8) (by rw [List.length_take]; omega) hQ8.size ?_; intro v9 w9 hO9 hg9 hb9 hf9; have hQ9 : Below wb.heap.size wb w9 := hQ8.trans hb9; clear hg9 hb9 hf9))
          all_goals
            have hS9 : Rts w9 v9 (L.take (k + 1) ++ L.drop (k)) := gls_part HRl.out hQ9 hO9 (part_two HRl.out.1 _ _ (by omega) (by omega)).1 (part_two HRl.out.1 _ _ (by omega) (by omega)).2
            go_wp2_with fail
            go_meet
            case rel => exact ⟨by first | rfl | (rw [hcn2]), v9, rfl, hS9, hQ9⟩
        case rest =>
          obtain ⟨rfl, u9, rfl, hS9, hb9⟩ := hcut
          have hF := HW.out.below hb9
          have hE := HE.out.below hb9
          replace HS8 := Lib.hid (GLs.below HS8.out hb9)
          clear HW HE HRo HRl hb9
          go_wp2_with fail
          refine (iRoutesOk_any _ _ a _ HS8.out hE).mono ?_; rintro e wx ⟨rfl, hbx⟩
          rw [decide_eq_true (rs_less hok.out k)]
          replace hF := hF.below hbx
          replace hE := hE.below hbx
          replace hS9 := GLs.below hS9 hbx
          clear hbx
          go_wp2_with fail
          refine (iRoutesOk_any _ _ a _ hS9 hE).mono ?_; rintro e wy ⟨rfl, hby⟩
          rw [decide_eq_false (rs_twice (L := L) (k := k) (by have := HLn.out; omega))]
          replace hF := hF.below hby
          have d12 : decide ((n : Int) ≤ 12) = true := decide_eq_true (by omega)
          clear hby hS9 hE
          go_wp2
          go_ret
          exact ⟨rfl, hF.kp⟩
end Go.Proofs.YtonojegnbcgnaaaDoor
