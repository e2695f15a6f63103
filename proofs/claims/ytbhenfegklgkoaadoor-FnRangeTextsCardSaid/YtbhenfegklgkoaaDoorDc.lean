/- Two ranges drawn; halves; what the range laws draw. -/
import Derived.Test.YtbhenfegklgkoaaDoorHq
import Derived.Test.YtbhenfegklgkoaaDoorB2
set_option linter.unusedSimpArgs false
set_option linter.unusedVariables false
namespace Go.Proofs.YtbhenfegklgkoaaDoor
open Go.RowKit

theorem sRangeHalf_any (f b : Int) (up : Bool) (w : World) :
    Calls Tryd.prog 20 #[.agg #[.int .i64 f, .int .i64 b], .bool up] w fun e w' => e = .returned (hlfV f b up) ∧ Below w.heap.size w w' := by
  by_cases h : ROk f b
  · have hd : decide (ROk f b) = true := by simp [h]
    by_cases h8 : b = 8
    · subst h8
      have e : hlfV f 8 up = .tuple #[.agg #[.int .i64 0, .int .i64 0], .bool false] := by simp [hlfV, hF, hB, Hlf]
      rw [e]; clear e
      go_enter Tryd.func20, Tryd.ntmps20
      go_wp2_with fail
      refine (sRangeOk_any f 8 _).mono ?_; rintro e w1 ⟨rfl, hb⟩
      have c1 := (bcell hb).1
      have c2 := (bcell hb).2
      go_wp2
      exact bodyPost_ret (v := .tuple #[.agg #[.int .i64 0, .int .i64 0], .bool false]) (by simp [results, Tryd.results20, go_sem, c1, c2]) rfl ⟨rfl, (by repeat (first | exact Below.refl _ _ | assumption | (refine Below.setCell ?_ (by dsimp only; omega) _) | (refine Below.alloc ?_ (by first | (simp only [World.size_alloc, World.size_setCell, World.size_drew]; omega) | omega) _) | apply Below.drew | (refine Below.trans ?_ (Below.mono (by assumption) (by first | (simp only [World.size_alloc, World.size_setCell, World.size_drew]; omega) | omega)))))⟩
    · have e8 : (b == 8) = false := by simp [h8]
      have hs1 := sz_pos (b + 1)
      have hs2 := sz_le (b + 1) (by have := h.1; omega)
      have hb0 := h.1
      have hb8 := h.2.1
      have hf0 := h.2.2.1
      have hf1 := h.2.2.2.1
      cases up
      · have e : hlfV f b false = .tuple #[.agg #[.int .i64 f, .int .i64 (b + 1)], .bool true] := by simp [hlfV, hF, hB, Hlf, h, h8]
        rw [e]; clear e
        go_enter Tryd.func20, Tryd.ntmps20
        go_wp2_with fail
        refine (sRangeOk_any f b _).mono ?_; rintro e w1 ⟨rfl, hb⟩
        have c1 := (bcell hb).1
        have c2 := (bcell hb).2
        have hs := hb.size
        simp only [World.size_alloc] at hs
        have z0 : w.heap.size < w1.heap.size := by omega
        have z1 : w.heap.size + 1 < w1.heap.size := by omega
        have hne : ¬ w1.heap.size = w.heap.size + 1 := by omega
        go_wp2
        exact bodyPost_ret (v := .tuple #[.agg #[.int .i64 f, .int .i64 (b + 1)], .bool true]) (by simp [results, Tryd.results20, go_sem, c1, c2, hne, z0, z1]) rfl ⟨rfl, (by repeat (first | exact Below.refl _ _ | assumption | (refine Below.setCell ?_ (by dsimp only; omega) _) | (refine Below.alloc ?_ (by first | (simp only [World.size_alloc, World.size_setCell, World.size_drew]; omega) | omega) _) | apply Below.drew | (refine Below.trans ?_ (Below.mono (by assumption) (by first | (simp only [World.size_alloc, World.size_setCell, World.size_drew]; omega) | omega)))))⟩
      · have e : hlfV f b true = .tuple #[.agg #[.int .i64 (f + sz (b + 1)), .int .i64 (b + 1)], .bool true] := by simp [hlfV, hF, hB, Hlf, h, h8]
        rw [e]; clear e
        go_enter Tryd.func20, Tryd.ntmps20
        go_wp2_with fail
        refine (sRangeOk_any f b _).mono ?_; rintro e w1 ⟨rfl, hb⟩
        have c1 := (bcell hb).1
        have c2 := (bcell hb).2
        have hs := hb.size
        simp only [World.size_alloc] at hs
        have z0 : w.heap.size < w1.heap.size := by omega
        have z1 : w.heap.size + 1 < w1.heap.size := by omega
        have hne : ¬ w1.heap.size = w.heap.size + 1 := by omega
        go_wp2
        have s0 : ∀ o, (w1.alloc o).cell? ⟨w.heap.size, 0, none⟩ = some (.int .i64 f) := fun o => (World.cell?_alloc_past _ _ _ z0).trans ((hb.cell (by simp; omega)).trans (by simp))
        go_region_held3 (fun w' => w'.cell? ⟨w.heap.size, 0, none⟩ = some (.int .i64 f) ∧ w'.cell? ⟨w1.heap.size, 1, none⟩ = some (.int .i64 (b + 1))) (first | (simp [s0]; done) | go_keep)
          (first
            | (go_at_call 16; refine (l1Size_any _ _ (by omega) (by omega)).mono ?_; rintro e w' ⟨rfl, rfl⟩))
        all_goals go_wp2
        all_goals exact bodyPost_ret (v := .tuple #[.agg #[.int .i64 (f + sz (b + 1)), .int .i64 (b + 1)], .bool true]) (by simp [results, Tryd.results20, go_sem, c1, c2, hne, z0, z1]) rfl ⟨rfl, (by repeat (first | exact Below.refl _ _ | assumption | (refine Below.setCell ?_ (by dsimp only; omega) _) | (refine Below.alloc ?_ (by first | (simp only [World.size_alloc, World.size_setCell, World.size_drew]; omega) | omega) _) | apply Below.drew | (refine Below.trans ?_ (Below.mono (by assumption) (by first | (simp only [World.size_alloc, World.size_setCell, World.size_drew]; omega) | omega)))))⟩
  · have hd : decide (ROk f b) = false := by simp [h]
    have e : hlfV f b up = .tuple #[.agg #[.int .i64 0, .int .i64 0], .bool false] := by simp [hlfV, hF, hB, Hlf, h]
    rw [e]; clear e
    go_enter Tryd.func20, Tryd.ntmps20
    go_wp2_with fail
    refine (sRangeOk_any f b _).mono ?_; rintro e w1 ⟨rfl, hb⟩
    have c1 := (bcell hb).1
    have c2 := (bcell hb).2
    go_wp2
    exact bodyPost_ret (v := .tuple #[.agg #[.int .i64 0, .int .i64 0], .bool false]) (by simp [results, Tryd.results20, go_sem, c1, c2]) rfl ⟨rfl, (by repeat (first | exact Below.refl _ _ | assumption | (refine Below.setCell ?_ (by dsimp only; omega) _) | (refine Below.alloc ?_ (by first | (simp only [World.size_alloc, World.size_setCell, World.size_drew]; omega) | omega) _) | apply Below.drew | (refine Below.trans ?_ (Below.mono (by assumption) (by first | (simp only [World.size_alloc, World.size_setCell, World.size_drew]; omega) | omega)))))⟩

theorem sRangeHalf_lit (f b : Int) (up : Bool) (w : World) :
    Calls Tryd.prog 20 #[.agg #[.int .i64 f, .int .i64 b], .bool up] w fun e w' => e = .returned (.tuple #[.agg #[.int .i64 (hF f b up), .int .i64 (hB f b)], .bool (decide (Hlf f b))]) ∧ Below w.heap.size w w' := sRangeHalf_any f b up w

theorem half_bd (f b : Int) (up : Bool) : -300 ≤ hF f b up ∧ hF f b up ≤ 600 ∧ -300 ≤ hB f b ∧ hB f b ≤ 600 := by
  unfold hF hB
  by_cases h : Hlf f b
  · rw [if_pos h, if_pos h]
    obtain ⟨⟨a1, a2, a3, a4, a5⟩, a6⟩ := h
    have := sz_le (b + 1) (by omega)
    have := sz_pos (b + 1)
    split <;> omega
  · rw [if_neg h, if_neg h]; omega

theorem alloc2v {w : World} {b : Nat} {u v : Value} (h : w.cell? ⟨b, 0, none⟩ = some u ∧ w.cell? ⟨b, 1, none⟩ = some v) (o : Obj) : (w.alloc o).cell? ⟨b, 0, none⟩ = some u ∧ (w.alloc o).cell? ⟨b, 1, none⟩ = some v :=
  ⟨(World.cell?_alloc_past _ _ _ (World.block_lt_of_cell? _ _ h.1)).trans h.1, (World.cell?_alloc_past _ _ _ (World.block_lt_of_cell? _ _ h.1)).trans h.2⟩
theorem set2v {w : World} {b : Nat} {u v : Value} (h : w.cell? ⟨b, 0, none⟩ = some u ∧ w.cell? ⟨b, 1, none⟩ = some v) (p : Addr) (x : Value) (hp : p.block ≠ b) : (w.setCell p x).cell? ⟨b, 0, none⟩ = some u ∧ (w.setCell p x).cell? ⟨b, 1, none⟩ = some v :=
  ⟨(World.cell?_setCell_other _ _ _ _ (fun e => hp (by rw [e]))).trans h.1, (World.cell?_setCell_other _ _ _ _ (fun e => hp (by rw [e]))).trans h.2⟩
theorem Below.v2 {w w' : World} (hb : Below w.heap.size w w') {b : Nat} {u v : Value} (h : w.cell? ⟨b, 0, none⟩ = some u ∧ w.cell? ⟨b, 1, none⟩ = some v) : w'.cell? ⟨b, 0, none⟩ = some u ∧ w'.cell? ⟨b, 1, none⟩ = some v :=
  ⟨(hb.cell (World.block_lt_of_cell? _ _ h.1)).trans h.1, (hb.cell (World.block_lt_of_cell? _ _ h.2)).trans h.2⟩
theorem Kp.v2 {r : Nat} {w w' : World} (hb : Kp r w w') {b : Nat} {u v : Value} (h : w.cell? ⟨b, 0, none⟩ = some u ∧ w.cell? ⟨b, 1, none⟩ = some v) (hr : b ≠ r) : w'.cell? ⟨b, 0, none⟩ = some u ∧ w'.cell? ⟨b, 1, none⟩ = some v :=
  ⟨hb.cell h.1 hr, hb.cell h.2 hr⟩

/-- What two drawn numbers of a range are: small. -/
def Sm (a b : Int) : Prop := -300 ≤ a ∧ a ≤ 600 ∧ -300 ≤ b ∧ b ≤ 600

/-- The state of l91Two: both results, both ranges. -/
def TwoL (n n1 n2 : Nat) (a b a2 b2 : Int) : List (Nat × List Value) := [(n1, [.int .i64 a, .int .i64 b]), (n2, [.int .i64 a2, .int .i64 b2]), (n, [.int .i64 0, .int .i64 0]), (n + 1, [.int .i64 0, .int .i64 0])]

set_option maxHeartbeats 1000000 in
theorem l91Two_any (r k : Nat) (w : World) (hR : Rd w r k) (hk : k ≤ 800000) :
    Calls Tryd.prog 9 #[.pointer (some ⟨r, 0, none⟩)] w fun e w' => ∃ a b c d : Int, e = .returned (.tuple #[.agg #[.int .i64 a, .int .i64 b], .agg #[.int .i64 c, .int .i64 d]]) ∧ Sm a b ∧ Sm c d ∧ (∃ k', k' ≤ k + 40 ∧ Rd w' r k') ∧ Kp r w w' := by
  have hr := hR.lt
  have hF := (Fr.start r w).alloc [.int .i64 0, .int .i64 0] 24 hr
  replace hF := hF.alloc [.int .i64 0, .int .i64 0] 24 (by simp; omega)
  replace hR := (hR.alloc (.cells #[.int .i64 0, .int .i64 0] 24)).alloc (.cells #[.int .i64 0, .int .i64 0] 24)
  go_enter Tryd.func9, Tryd.ntmps9
  go_wp2_with fail
  refine (l91Range_any r _ _ hR (by omega)).mono ?_; rintro e w1 ⟨a1, b1, rfl, a1l, a1h, b1l, b1h, ⟨k1, hk1, hR1⟩, hK1⟩
  have hs1 := hK1.size
  simp only [World.size_alloc] at hs1
  replace hF := (hF.call hK1).alloc [.int .i64 a1, .int .i64 b1] 24 hR1.lt
  replace hR := hR1.alloc (.cells #[.int .i64 a1, .int .i64 b1] 24)
  go_wp2_with fail
  refine (l91Range_any r _ _ hR (by omega)).mono ?_; rintro e w2 ⟨a2, b2, rfl, a2l, a2h, b2l, b2h, ⟨k2, hk2, hR2⟩, hK2⟩
  have hs2 := hK2.size
  simp only [World.size_alloc] at hs2
  replace hF := (hF.call hK2).alloc [.int .i64 a2, .int .i64 b2] 24 hR2.lt
  replace hR := hR2.alloc (.cells #[.int .i64 a2, .int .i64 b2] 24)
  clear hR1 hR2 hK1 hK2
  have o := hF.own; simp only [World.size_alloc, World.size_drew, World.size_setCell, List.mem_cons, List.not_mem_nil, or_false, forall_eq_or_imp, forall_eq, At, and_true, Nat.zero_add, Nat.reduceAdd, List.set_cons_zero, List.set_cons_succ] at o
  go_wp2_with fail
  refine (sRangeOk_any a2 b2 _).mono ?_; rintro e w3 ⟨rfl, hb3⟩
  have hs3 := hb3.size
  simp only [World.size_alloc] at hs3
  replace hF := hF.below hb3
  replace hR := hR.below hb3 (by simp; omega)
  replace hF : Fr r w w3 (TwoL w.heap.size w1.heap.size w2.heap.size a1 b1 a2 b2) := hF.sub (by unfold TwoL; simp)
  clear o
  have n20 : w.heap.size ≠ w1.heap.size := by omega
  have n21 : w.heap.size + 1 ≠ w1.heap.size := by omega
  have n30 : w.heap.size ≠ w2.heap.size := by omega
  have n31 : w.heap.size + 1 ≠ w2.heap.size := by omega
  have n32 : w1.heap.size ≠ w2.heap.size := by omega
  by_cases hok : ROk a2 b2
  · have hd : decide (ROk a2 b2) = true := by simp [hok]
    go_wp2_with fail
    refine (pick_any r _ _ _ hR (by omega) (by omega) (by omega)).mono ?_; rintro e w4 ⟨v4, rfl, u4, l4, hR4, hK4⟩
    replace hF := hF.call hK4
    replace hR := hR4
    have hs4 := hK4.size
    clear hR4 hK4
    by_cases h4 : v4 = 0
    · subst h4
      have hF2 := hF
      unfold TwoL at hF
      have o := hF.own; simp only [World.size_alloc, World.size_drew, World.size_setCell, List.mem_cons, List.not_mem_nil, or_false, forall_eq_or_imp, forall_eq, At, and_true, Nat.zero_add, Nat.reduceAdd, List.set_cons_zero, List.set_cons_succ] at o
      replace hF := (hF.set 0 (.int .i64 a2) (by simp) (by simp; omega)).set 1 (.int .i64 b2) (by simp) (by simp; omega)
      go_wp2_with fail
      have hR' := (hR.setCell (p := ⟨w1.heap.size, 0, none⟩) (by dsimp only; omega) (.int .i64 a2)).setCell (p := ⟨w1.heap.size, 1, none⟩) (by dsimp only; omega) (.int .i64 b2)
      refine (pick_any r _ _ _ hR' (by omega) (by omega) (by omega)).mono ?_; rintro e w5 ⟨v5, rfl, u5, l5, hR5, hK5⟩
      replace hF : Fr r w w5 (TwoL w.heap.size w1.heap.size w2.heap.size a2 b2 a2 b2) := hF.call hK5
      have hs5 := hK5.size
      simp only [World.size_setCell] at hs5
      have sA : Sm a2 b2 := ⟨by omega, by omega, by omega, by omega⟩
      clear hK5 hR hR' hF2 o
      obtain ⟨N, rfl⟩ := Int.eq_ofNat_of_zero_le u5
      go_wp2_with fail
      go_loopw [6] (fun n wr => ∃ (m k' : Nat) (a b : Int), n = .int .i64 m ∧ m ≤ 3 ∧ k' + m ≤ k2 + 10 ∧ Sm a b ∧ Rd wr r k' ∧ w5.heap.size ≤ wr.heap.size ∧ Fr r w wr (TwoL w.heap.size w1.heap.size w2.heap.size a b a2 b2))
        (fun n _ => (intOf n).toNat)
      case atStart => exact ⟨N, k2 + 1 + 1, a2, b2, rfl, by omega, by omega, sA, hR5, Nat.le_refl _, hF⟩
      case round =>
        clear hF hR5 sA
        obtain ⟨m, k', a, b, rfl, hm, hk', sA, hR, hsr, hF⟩ := hrel
        by_cases hm0 : m = 0
        · subst hm0
          go_wp2
          unfold TwoL at hF
          have o := hF.own; simp only [World.size_alloc, World.size_drew, World.size_setCell, List.mem_cons, List.not_mem_nil, or_false, forall_eq_or_imp, forall_eq, At, and_true, Nat.zero_add, Nat.reduceAdd, List.set_cons_zero, List.set_cons_succ] at o
          go_region_held3 (fun w' => w'.cell? ⟨w1.heap.size, 0, none⟩ = some (.int .i64 a) ∧ w'.cell? ⟨w1.heap.size, 1, none⟩ = some (.int .i64 b) ∧ w'.cell? ⟨w2.heap.size, 0, none⟩ = some (.int .i64 a2) ∧ w'.cell? ⟨w2.heap.size, 1, none⟩ = some (.int .i64 b2)) (simp [o, World.cell?_setCell_far, n20, n21, n30, n31]) (fail)
          all_goals (try go_wp2)
          all_goals exact bodyPost_ret (v := .tuple #[.agg #[.int .i64 a, .int .i64 b], .agg #[.int .i64 a2, .int .i64 b2]]) (by simp [results, Tryd.results9, go_sem, o, World.cell?_setCell_far, World.cell?_setCell_same']) rfl ⟨a, b, a2, b2, rfl, sA, ⟨by omega, by omega, by omega, by omega⟩, ⟨k', by omega, (by repeat (first | assumption | apply Rd.alloc | apply Rd.drew | apply Rd.drewN | (refine Rd.setCell ?_ (by dsimp only; omega) _) | apply Rd.setCell | ((try dsimp only); omega)))⟩, have kp' := hF.kp; (by repeat (first | exact Kp.refl _ _ | assumption | apply Kp.alloc | apply Kp.drew | apply Kp.drewN | (refine Kp.setCell ?_ (Or.inl (by dsimp only; omega)) _) | (refine Kp.trans ?_ (by assumption)) | (refine Kp.of_below ?_ (by assumption))))⟩
        · have hmp : 0 < (m : Int) := by omega
          go_upto_region 8 with (fail)
          go_cut [7, 8] (fun x ok wx => ∃ (xb k'' : Nat) (c d : Int) (bo : Bool), x = .pointer (some ⟨xb, 0, none⟩) ∧ ok = .bool bo ∧ Sm c d ∧ k'' ≤ k' + 1 ∧ Rd wx r k'' ∧ wr.heap.size ≤ xb ∧ wr.heap.size ≤ wx.heap.size ∧ Fr r w wx ((xb, [.int .i64 c, .int .i64 d]) :: TwoL w.heap.size w1.heap.size w2.heap.size a b a2 b2))
          case first =>
            have hFk := hF
            unfold TwoL at hF
            have o := hF.own; simp only [World.size_alloc, World.size_drew, World.size_setCell, List.mem_cons, List.not_mem_nil, or_false, forall_eq_or_imp, forall_eq, At, and_true, Nat.zero_add, Nat.reduceAdd, List.set_cons_zero, List.set_cons_succ] at o
            have o2v : wr.drew.cell? ⟨w1.heap.size, 0, none⟩ = some (.int .i64 a) ∧ wr.drew.cell? ⟨w1.heap.size, 1, none⟩ = some (.int .i64 b) := ⟨o.1.1.1, o.1.1.2.2.1⟩
            have hne2 := o.1.2.2.1
            have hne5 : wr.heap.size ≠ r := by have := hR.lt; omega
            have hbd := fun up => half_bd a b up
            clear o
            replace hF := hFk
            go_region_held3 (fun w' => w'.cell? ⟨w1.heap.size, 0, none⟩ = some (.int .i64 a) ∧ w'.cell? ⟨w1.heap.size, 1, none⟩ = some (.int .i64 b)) (first | assumption | (refine alloc2v ?_ _; assumption) | (refine set2v (set2v ?_ _ _ ?_) _ _ ?_ <;> first | assumption | (dsimp only; omega)))
              (first
                | (go_at_call 19; refine (pick_any r k' _ _ (by repeat (first | assumption | apply Rd.alloc | apply Rd.drew | apply Rd.drewN | (refine Rd.setCell ?_ (by dsimp only; omega) _) | apply Rd.setCell | ((try dsimp only); omega))) (by omega) (by omega) (by omega)).mono ?_; rintro e w6 ⟨v6, rfl, u6, l6, hR6, hK6⟩; have S1 := hK6.v2 (b := w1.heap.size) (u := .int .i64 a) (v := .int .i64 b) (by assumption) hne2; have RU6 := Kp.rule hK6; have hne6 : w6.heap.size ≠ r := (by have := hR6.lt; omega); have hs6 := hK6.size; (try simp only [World.size_alloc, World.size_drew] at hs6); (try have hz6 : wr.heap.size < w6.heap.size := (by omega)))
                | (go_at_call 20; refine (sRangeHalf_lit _ _ _ _).mono ?_; rintro e w7 ⟨rfl, hb7⟩; have T1 := Below.v2 (b := w1.heap.size) (u := .int .i64 a) (v := .int .i64 b) hb7 (by assumption); have RU7 := bcell hb7; have hs7 := hb7.size; (try simp only [World.size_alloc, World.size_drew] at hs7)))
            all_goals (try go_wp2)
            all_goals go_meet
            all_goals have hRF := hR6
            case rel => exact ⟨_, k' + 1, _, _, _, rfl, rfl, hbd _, Nat.le_refl _, (by have hRF' : Rd w7 r (k' + 1) := (by first | exact Rd.below hRF hb7 (by have := hRF.lt; simp; omega) | exact Rd.below (hRF.alloc _) hb7 (by have := hRF.lt; simp; omega)); repeat (first | assumption | apply Rd.alloc | (refine Rd.setCell ?_ (by dsimp only; omega) _))), by omega, by simp; omega, (((hF.drew.call hK6).below hb7).alloc [_, _] _ (by omega))⟩
            case rel => exact ⟨_, k' + 1, _, _, _, rfl, rfl, hbd _, Nat.le_refl _, (by have hRF' : Rd w7 r (k' + 1) := (by first | exact Rd.below hRF hb7 (by have := hRF.lt; simp; omega) | exact Rd.below (hRF.alloc _) hb7 (by have := hRF.lt; simp; omega)); repeat (first | assumption | apply Rd.alloc | (refine Rd.setCell ?_ (by dsimp only; omega) _))), by omega, by simp; omega, (((((hF.drew.call hK6).alloc [.int .i64 0, .int .i64 0] 24 (by omega)).below hb7).set 0 _ (by simp) (by unfold TwoL; simp; omega)).set 1 _ (by simp) (by unfold TwoL; simp; omega))⟩
            case rel => exact ⟨_, k' + 1, _, _, _, rfl, rfl, hbd _, Nat.le_refl _, (by have hRF' : Rd w7 r (k' + 1) := (by first | exact Rd.below hRF hb7 (by have := hRF.lt; simp; omega) | exact Rd.below (hRF.alloc _) hb7 (by have := hRF.lt; simp; omega)); repeat (first | assumption | apply Rd.alloc | (refine Rd.setCell ?_ (by dsimp only; omega) _))), by omega, by simp; omega, (((((hF.alloc [.int .i64 0, .int .i64 0] 24 (by omega)).drew.call hK6).below hb7).set 0 _ (by simp) (by unfold TwoL; simp; omega)).set 1 _ (by simp) (by unfold TwoL; simp; omega))⟩
          case rest =>
            obtain ⟨xb, k'', c, d, bo, rfl, rfl, sC, hk'', hR', hxb, hsx, hF'⟩ := hcut
            have hFk := hF'
            unfold TwoL at hF'
            have o := hF'.own; simp only [List.mem_cons, List.not_mem_nil, or_false, forall_eq_or_imp, forall_eq, At, and_true, Nat.zero_add, Nat.reduceAdd, List.set_cons_zero, List.set_cons_succ] at o
            have nx : xb ≠ w1.heap.size := by omega
            have nx' : w1.heap.size ≠ xb := by omega
            have hmp' : ((m : Int) - 1) = ((m - 1 : Nat) : Int) := by omega
            have hMP := Lib.hid hmp'; clear hmp' hF hR
            cases bo
            · go_wp2
              go_roundw
              case rel => exact ⟨m - 1, k'', a, b, by rw [← hMP.out], by omega, by omega, sA, hR', by omega, hFk.rest⟩
              case measure => simp [intOf]; omega
            · go_wp2
              go_roundw
              case rel => exact ⟨m - 1, k'', c, d, by rw [← hMP.out], by omega, by omega, sC, (hR'.setCell (by dsimp only; omega) _).setCell (by dsimp only; omega) _, by simp; omega, (hFk.rest.set 0 (.int .i64 c) (by simp) (by simp; omega)).set 1 (.int .i64 d) (by simp) (by simp; omega)⟩
              case measure => simp [intOf]; omega
    · have e4 : (v4 == 0) = false := by simp [h4]
      go_wp2
      unfold TwoL at hF
      have o := hF.own; simp only [World.size_alloc, World.size_drew, World.size_setCell, List.mem_cons, List.not_mem_nil, or_false, forall_eq_or_imp, forall_eq, At, and_true, Nat.zero_add, Nat.reduceAdd, List.set_cons_zero, List.set_cons_succ] at o
      go_region_held3 (fun w' => w'.cell? ⟨w1.heap.size, 0, none⟩ = some (.int .i64 a1) ∧ w'.cell? ⟨w1.heap.size, 1, none⟩ = some (.int .i64 b1) ∧ w'.cell? ⟨w2.heap.size, 0, none⟩ = some (.int .i64 a2) ∧ w'.cell? ⟨w2.heap.size, 1, none⟩ = some (.int .i64 b2)) (simp [o, World.cell?_setCell_far, n20, n21, n30, n31]) (fail)
      all_goals (try go_wp2)
      all_goals exact bodyPost_ret (v := .tuple #[.agg #[.int .i64 a1, .int .i64 b1], .agg #[.int .i64 a2, .int .i64 b2]]) (by simp [results, Tryd.results9, go_sem, o, World.cell?_setCell_far, World.cell?_setCell_same']) rfl ⟨a1, b1, a2, b2, rfl, ⟨by omega, by omega, by omega, by omega⟩, ⟨by omega, by omega, by omega, by omega⟩, ⟨(k2 + 1), by omega, (by repeat (first | assumption | apply Rd.alloc | apply Rd.drew | apply Rd.drewN | (refine Rd.setCell ?_ (by dsimp only; omega) _) | apply Rd.setCell | ((try dsimp only); omega)))⟩, have kp' := hF.kp; (by repeat (first | exact Kp.refl _ _ | assumption | apply Kp.alloc | apply Kp.drew | apply Kp.drewN | (refine Kp.setCell ?_ (Or.inl (by dsimp only; omega)) _) | (refine Kp.trans ?_ (by assumption)) | (refine Kp.of_below ?_ (by assumption))))⟩
  · have hd : decide (ROk a2 b2) = false := by simp [hok]
    go_wp2
    unfold TwoL at hF
    have o := hF.own; simp only [World.size_alloc, World.size_drew, World.size_setCell, List.mem_cons, List.not_mem_nil, or_false, forall_eq_or_imp, forall_eq, At, and_true, Nat.zero_add, Nat.reduceAdd, List.set_cons_zero, List.set_cons_succ] at o
    go_region_held3 (fun w' => w'.cell? ⟨w1.heap.size, 0, none⟩ = some (.int .i64 a1) ∧ w'.cell? ⟨w1.heap.size, 1, none⟩ = some (.int .i64 b1) ∧ w'.cell? ⟨w2.heap.size, 0, none⟩ = some (.int .i64 a2) ∧ w'.cell? ⟨w2.heap.size, 1, none⟩ = some (.int .i64 b2)) (simp [o, World.cell?_setCell_far, n20, n21, n30, n31]) (fail)
    all_goals (try go_wp2)
    all_goals exact bodyPost_ret (v := .tuple #[.agg #[.int .i64 a1, .int .i64 b1], .agg #[.int .i64 a2, .int .i64 b2]]) (by simp [results, Tryd.results9, go_sem, o, World.cell?_setCell_far, World.cell?_setCell_same']) rfl ⟨a1, b1, a2, b2, rfl, ⟨by omega, by omega, by omega, by omega⟩, ⟨by omega, by omega, by omega, by omega⟩, ⟨k2, by omega, (by repeat (first | assumption | apply Rd.alloc | apply Rd.drew | apply Rd.drewN | (refine Rd.setCell ?_ (by dsimp only; omega) _) | apply Rd.setCell | ((try dsimp only); omega)))⟩, have kp' := hF.kp; (by repeat (first | exact Kp.refl _ _ | assumption | apply Kp.alloc | apply Kp.drew | apply Kp.drewN | (refine Kp.setCell ?_ (Or.inl (by dsimp only; omega)) _) | (refine Kp.trans ?_ (by assumption)) | (refine Kp.of_below ?_ (by assumption))))⟩
end Go.Proofs.YtbhenfegklgkoaaDoor
