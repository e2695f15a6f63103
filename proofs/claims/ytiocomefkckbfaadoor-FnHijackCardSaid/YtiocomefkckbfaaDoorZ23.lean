/- Sealed routes drawn. Draws of sealed routes. -/
import Derived.Test.YtiocomefkckbfaaDoorZ22
import Derived.Test.YtiocomefkckbfaaDoorZ20
set_option linter.unusedSimpArgs false
set_option linter.unusedVariables false
namespace Go.Proofs.YtiocomefkckbfaaDoor
open Go.RowKit

theorem Rows.belowB {α : Type} {w w' : World} {v : Value} {sz B : Nat} {enc : α → List Value} {L : List α} (h : Rows w v sz enc L) (K : Below B w w') (hB : ∀ g, v.ownBlock = some g → g < B) : Rows w' v sz enc L := by
  obtain ⟨ao, cap, e, h1, h2, h3⟩ := h.ex
  refine ⟨ao, cap, e, h1, h2, fun k x hk => ?_⟩
  obtain ⟨b, off, e1, hc⟩ := h3 k x hk
  exact ⟨b, off, e1, fun j u hj => (K.cell (p := ⟨b, off + k * sz + j, Option.none⟩) (hB b (by rw [e, e1]; rfl))).trans (hc j u hj)⟩
theorem Rz.belowB {w w' : World} {r B : Nat} {S : List Nat} {v : Value} {L : List Int} (h : Rz w r S v L) (K : Below B w w') (hB : ∀ g, v.ownBlock = some g → g < B) : Rz w' r S v L :=
  ⟨⟨Rows.belowB h.it.1 K hB, h.it.2⟩, fun g hg => ⟨(h.lo g hg).1, Nat.lt_of_lt_of_le (h.lo g hg).2 K.size⟩, h.off⟩
theorem sealsOf_sm {t f n lk : Int} {P M : List Int} (hP : L4 P) : ∀ s ∈ sealsOf t f n lk P M, SmS s := fun s hs => by
  unfold sealsOf at hs
  split at hs
  · rename_i h; exact h.sm (Nat.le_trans hP.1 (by omega)) (Nat.le_refl _) s hs
  · cases hs
theorem SOwn.set5 {w : World} {B n : Nat} {v : Value} {L : List Sl} (h : SOwn w B v L) (hn : n < B) (u0 u1 u2 u3 u4 : Value) : SOwn (((((w.setCell ⟨n, 0, none⟩ u0).setCell ⟨n, 1, none⟩ u1).setCell ⟨n, 2, none⟩ u2).setCell ⟨n, 3, none⟩ u3).setCell ⟨n, 4, none⟩ u4) B v L :=
  ((((h.set (a := ⟨n, 0, none⟩) hn u0).set (a := ⟨n, 1, none⟩) hn u1).set (a := ⟨n, 2, none⟩) hn u2).set (a := ⟨n, 3, none⟩) hn u3).set (a := ⟨n, 4, none⟩) hn u4
theorem Own.set5 {α : Type} {E : TypeId} {w : World} {B n sz : Nat} {v : Value} {enc : α → List Value} {L : List α} (h : Own E w B v sz enc L) (hn : n < B) (u0 u1 u2 u3 u4 : Value) : Own E (((((w.setCell ⟨n, 0, none⟩ u0).setCell ⟨n, 1, none⟩ u1).setCell ⟨n, 2, none⟩ u2).setCell ⟨n, 3, none⟩ u3).setCell ⟨n, 4, none⟩ u4) B v sz enc L :=
  ((((h.set (a := ⟨n, 0, none⟩) hn u0).set (a := ⟨n, 1, none⟩) hn u1).set (a := ⟨n, 2, none⟩) hn u2).set (a := ⟨n, 3, none⟩) hn u3).set (a := ⟨n, 4, none⟩) hn u4
theorem Rd.set5 {w : World} {r k n : Nat} (h : Rd w r k) (hn : r < n) (u0 u1 u2 u3 u4 : Value) : Rd (((((w.setCell ⟨n, 0, none⟩ u0).setCell ⟨n, 1, none⟩ u1).setCell ⟨n, 2, none⟩ u2).setCell ⟨n, 3, none⟩ u3).setCell ⟨n, 4, none⟩ u4) r k :=
  ((((h.setCell (p := ⟨n, 0, none⟩) hn u0).setCell (p := ⟨n, 1, none⟩) hn u1).setCell (p := ⟨n, 2, none⟩) hn u2).setCell (p := ⟨n, 3, none⟩) hn u3).setCell (p := ⟨n, 4, none⟩) hn u4
set_option maxRecDepth 100000 in
set_option maxHeartbeats 8000000 in
theorem l92Sealed_any (r k : Nat) (w : World) (hR : Rd w r k) (hk : k ≤ 500000) :
    Calls Tryd.prog 31 #[.pointer (some ⟨r, 0, none⟩)] w fun e w' => ∃ (hv lv pv mv : Value) (H : List HoldD) (L : List Sl) (f b lk ti : Int) (P M : List Int), e = .returned (.tuple #[hv, lv, .agg #[.int .i64 f, .int .i64 b, pv, .int .i64 lk, mv], .int .i64 ti]) ∧ Own 41 w' (w.heap.size + 1) hv 3 HoldD.enc H ∧ SOwn w' (w.heap.size + 1) lv L ∧ Rz w' r [] pv P ∧ Rz w' r [] mv M ∧ L4 P ∧ M.length ≤ 10 ∧ H.length ≤ 5 ∧ L.length ≤ 8 ∧ (∀ s ∈ L, SmS s) ∧ 0 ≤ ti ∧ ti ≤ 6 ∧ SmR f b ∧ (∃ k', k' ≤ k + 500 ∧ Rd w' r k') ∧ Kp r w w' := by
  have hr := hR.lt
  have hF := (Fr.start r w).alloc [.int .i64 0, .int .i64 0, .slice none 0 0, .int .i64 0, .slice none 0 0] 35 hr
  replace hR := hR.alloc (.cells #[.int .i64 0, .int .i64 0, .slice none 0 0, .int .i64 0, .slice none 0 0] 35)
  obtain ⟨n4, hn4⟩ : ∃ n, w.heap.size = n := ⟨_, rfl⟩
  rw [hn4] at hF hr
  go_enter Tryd.func31, Tryd.ntmps31
  go_wp2_with fail
  refine (l91Route_any r _ _ hR (by omega)).mono ?_; rintro e w1 ⟨f, b, lk, pv, mv, P, M, rfl, hP, hM, hP4, hM9, -, ⟨-, hfb⟩, ⟨k1, hk1, hR1⟩, hK1⟩
  have HFB := Lib.hid hfb
  clear hfb
  have hs1 := hK1.size
  simp only [World.size_alloc] at hs1
  obtain ⟨n6, hn6⟩ : ∃ n, w1.heap.size = n := ⟨_, rfl⟩
  replace hF := hF.call hK1
  have hPn := fun g hg => (hP.2 g hg).2
  have hMn := fun g hg => (hM.2 g hg).2
  replace hP := (hP.rz (r := r) (by simp; omega) [n4] (by simp; omega)).alloc (.cells #[.int .i64 f, .int .i64 b, pv, .int .i64 lk, mv] 35)
  replace hM := (hM.rz (r := r) (by simp; omega) [n4] (by simp; omega)).alloc (.cells #[.int .i64 f, .int .i64 b, pv, .int .i64 lk, mv] 35)
  obtain ⟨o1, c1, rfl, hnc, hcc, -⟩ := hP.it.1.ex
  obtain ⟨o2, c2, rfl, -⟩ := hM.it.1.ex
  have hr1 := hR1.lt
  rw [hn6] at hPn hMn
  replace hF := hF.alloc [.int .i64 f, .int .i64 b, .slice o1 P.length c1, .int .i64 lk, .slice o2 M.length c2] 35 hr1
  replace hR1 := hR1.alloc (.cells #[.int .i64 f, .int .i64 b, .slice o1 P.length c1, .int .i64 lk, .slice o2 M.length c2] 35)
  rw [hn6] at hF hP hM
  have hPn : Hid (∀ g, (Value.slice o1 P.length c1).ownBlock = some g → g < n6) := hPn
  have hMn : Hid (∀ g, (Value.slice o2 M.length c2).ownBlock = some g → g < n6) := hMn
  have hn46 : n4 < n6 := by omega
  clear hR hK1 hs1
  go_wp2_with fail
  refine (pick_any r _ _ _ hR1 (by omega) (by omega) (by omega)).mono ?_; rintro e w2 ⟨t2, rfl, u2, l2, hR2, hK2⟩
  have hs2 := hK2.size
  simp only [World.size_alloc] at hs2
  replace hF := hF.call hK2
  replace hP := hP.kp hK2
  replace hM := hM.kp hK2
  (try replace hS := hS.kp hK2 (by omega))
  (try clear o)
  have o := hF.own; simp only [World.size_alloc, World.size_drew, World.size_setCell, List.mem_cons, List.not_mem_nil, or_false, forall_eq_or_imp, forall_eq, At, and_true, Nat.zero_add, Nat.reduceAdd, List.set_cons_zero, List.set_cons_succ] at o
  clear hK2 hR1
  go_upto_block 0 with (fail)
  go_cut [7, 8] (fun s7 s8 wr => ∃ (t : Int) (k' : Nat), s7 = .int .i64 t ∧ 0 ≤ t ∧ t ≤ 6 ∧ k' ≤ k + 120 ∧ Rz wr r [n6, n4] (.slice o1 P.length c1) P ∧ Rz wr r [n6, n4] (.slice o2 M.length c2) M ∧ Rd wr r k' ∧ Fr r w wr [(n6, [.int .i64 f, .int .i64 b, .slice o1 P.length c1, .int .i64 lk, .slice o2 M.length c2]), (n4, [.int .i64 0, .int .i64 0, .slice none 0 0, .int .i64 0, .slice none 0 0])] ∧ n6 < wr.heap.size)
  case first =>
    go_wp2
    go_loopw [7, 8] (fun s7 s8 wr => ∃ (t : Int) (m k' : Nat), s7 = .int .i64 t ∧ s8 = .int .i64 m ∧ m ≤ 6 ∧ 0 ≤ t ∧ t ≤ 6 ∧ k' ≤ k + 110 + m ∧ Rz wr r [n6, n4] (.slice o1 P.length c1) P ∧ Rz wr r [n6, n4] (.slice o2 M.length c2) M ∧ Rd wr r k' ∧ Fr r w wr [(n6, [.int .i64 f, .int .i64 b, .slice o1 P.length c1, .int .i64 lk, .slice o2 M.length c2]), (n4, [.int .i64 0, .int .i64 0, .slice none 0 0, .int .i64 0, .slice none 0 0])] ∧ n6 < wr.heap.size) (fun _ s8 _ => 6 - (intOf s8).toNat)
    case atStart => exact ⟨1 + t2, 0, k1 + 1, rfl, rfl, by omega, by omega, by omega, by omega, hP, hM, hR2, hF, by omega⟩
    case round =>
      clear hF hP hM hR2 o
      obtain ⟨t, m, k', rfl, rfl, hm, ht0, ht6, hk', hP, hM, hR, hF, hsz⟩ := hrel
      have o := hF.own; simp only [World.size_alloc, World.size_drew, World.size_setCell, List.mem_cons, List.not_mem_nil, or_false, forall_eq_or_imp, forall_eq, At, and_true, Nat.zero_add, Nat.reduceAdd, List.set_cons_zero, List.set_cons_succ] at o
      by_cases hm6 : m < 6
      · have dm : decide ((m : Int) < 6) = true := by simp; omega
        go_wp2_with fail
        refine (l3Has_any _ P t _ hP.it.1).mono ?_; rintro e wx ⟨rfl, hbx⟩
        replace hF := hF.below hbx
        replace hP := hP.below hbx
        replace hM := hM.below hbx
        replace hR := hR.below hbx hR.lt
        have hsx := hbx.size
        clear hbx o
        have o := hF.own; simp only [World.size_alloc, World.size_drew, World.size_setCell, List.mem_cons, List.not_mem_nil, or_false, forall_eq_or_imp, forall_eq, At, and_true, Nat.zero_add, Nat.reduceAdd, List.set_cons_zero, List.set_cons_succ] at o
        by_cases hin : t ∈ P
        · have din : decide (t ∈ P) = true := by simp [hin]
          clear hin
          go_wp2_with fail
          refine (pick_any r _ _ _ hR (by omega) (by omega) (by omega)).mono ?_; rintro e wy ⟨ty, rfl, uy, ly, hRy, hKy⟩
          have hsy := hKy.size
          replace hF := hF.call hKy
          replace hP := hP.kp hKy
          replace hM := hM.kp hKy
          (try replace hS := hS.kp hKy (by omega))
          (try clear o)
          clear hKy hR
          go_wp2_with fail
          go_roundw
          case rel => exact ⟨1 + ty, m + 1, k' + 1, rfl, by go_num, by omega, by omega, by omega, by omega, hP, hM, hRy, hF, by omega⟩
          case measure => simp [intOf]; omega
        · have din : decide (t ∈ P) = false := by simp [hin]
          clear hin
          go_wp2_with fail
          go_meet
          case rel => exact ⟨t, k', rfl, ht0, ht6, by omega, hP, hM, hR, hF, by omega⟩
      · have dm : decide ((m : Int) < 6) = false := by simp; omega
        go_wp2_with fail
        go_meet
        case rel => exact ⟨t, k', rfl, ht0, ht6, by omega, hP, hM, hR, hF, by omega⟩
  case rest =>
    clear hF hP hM hR2 o hs2 u2 l2 hr1
    obtain ⟨t, k', rfl, ht0, ht6, hk', hP, hM, hR, hF, hsz⟩ := hcut
    have o := hF.own; simp only [World.size_alloc, World.size_drew, World.size_setCell, List.mem_cons, List.not_mem_nil, or_false, forall_eq_or_imp, forall_eq, At, and_true, Nat.zero_add, Nat.reduceAdd, List.set_cons_zero, List.set_cons_succ] at o
    go_wp2_with fail
    refine (sSealMake_any f b lk _ _ P M t _ hP.it.1 hM.it.1 (by have := hP4.1; omega)).mono ?_; rintro e w3 ⟨u3, rfl, hS, ⟨gs, ns, cs, rfl⟩, hb3⟩
    have hs3 := hb3.size
    have HS := Lib.hid (hS.base (B := n6 + 1) (by omega))
    have hSlt : Hid (gs < w3.heap.size) := by obtain ⟨ds, hd, -⟩ := hS; exact hd.lt gs rfl
    have hG := Fr.start r w3
    replace hF := hF.below hb3
    replace hP := hP.below hb3
    replace hM := hM.below hb3
    replace hR := hR.below hb3 hR.lt
    clear hb3 o
    have o := hF.own; simp only [World.size_alloc, World.size_drew, World.size_setCell, List.mem_cons, List.not_mem_nil, or_false, forall_eq_or_imp, forall_eq, At, and_true, Nat.zero_add, Nat.reduceAdd, List.set_cons_zero, List.set_cons_succ] at o
    go_wp2_with fail
    refine (l92HoldsO_any r _ _ hR (by omega)).mono ?_; rintro e w4 ⟨hv, H, rfl, hH, hH4, -, ⟨k4, hk4, hR4⟩, hK4⟩
    have hs4 := hK4.size
    replace hF := hF.call hK4
    replace hP := hP.kp hK4
    replace hM := hM.kp hK4
    replace hG := hG.call hK4
    clear hS hK4 hR o
    have o := hF.own; simp only [World.size_alloc, World.size_drew, World.size_setCell, List.mem_cons, List.not_mem_nil, or_false, forall_eq_or_imp, forall_eq, At, and_true, Nat.zero_add, Nat.reduceAdd, List.set_cons_zero, List.set_cons_succ] at o
    go_upto_region 9 with (fail)
    go_cut [44] (fun s44 wx => ∃ (bo : Bool) (k' : Nat), s44 = .bool bo ∧ Hid (bo = true → 0 < P.length) ∧ k' ≤ k + 300 ∧ Own 41 wx w3.heap.size hv 3 HoldD.enc H ∧ Rz wx r [n6, n4] (.slice o1 P.length c1) P ∧ Rz wx r [n6, n4] (.slice o2 M.length c2) M ∧ Rd wx r k' ∧ Fr r w wx [(n6, [.int .i64 f, .int .i64 b, .slice o1 P.length c1, .int .i64 lk, .slice o2 M.length c2]), (n4, [.int .i64 0, .int .i64 0, .slice none 0 0, .int .i64 0, .slice none 0 0])] ∧ Fr r w3 wx [])
    case first =>
      by_cases h0 : P.length = 0
      · have d0 : decide (0 < P.length) = false := by simp; exact List.length_eq_zero_iff.1 h0
        clear h0
        go_wp2_with fail
        go_meet
        case rel => exact ⟨false, k4, rfl, fun q => (by cases q), by omega, hH, hP, hM, hR4, hF, hG⟩
      · have d0 : decide (0 < P.length) = true := decide_eq_true (by omega)
        have hp0 : Hid (0 < P.length) := (by omega : 0 < P.length)
        clear h0
        go_wp2_with fail
        refine (pick_any r _ _ _ hR4 (by omega) (by omega) (by omega)).mono ?_; rintro e wy ⟨ty, rfl, uy, ly, hRy, hKy⟩
        replace hF := hF.call hKy
        replace hP := hP.kp hKy
        replace hM := hM.kp hKy
        (try replace hS := hS.kp hKy (by omega))
        (try clear o)
        replace hH := hH.kp hKy (by omega)
        replace hG := hG.call hKy
        clear hKy hR4
        by_cases hz : ty = 0
        · subst hz
          go_wp2_with fail
          go_meet
          case rel => exact ⟨false, k4 + 1, rfl, fun q => (by cases q), by omega, hH, hP, hM, hRy, hF, hG⟩
        · have dz : decide (0 < ty) = true := decide_eq_true (by omega)
          clear hz
          go_wp2_with fail
          go_meet
          case rel => exact ⟨true, k4 + 1, rfl, fun _ => hp0.out, by omega, hH, hP, hM, hRy, hF, hG⟩
    case rest =>
      clear hF hP hM hR4 hG hH o
      have hs4' : w3.heap.size ≤ w4.heap.size := hs4
      obtain ⟨bo, k', rfl, hbo, hk', hH, hP, hM, hR, hF, hG⟩ := hcut
      have o := hF.own; simp only [World.size_alloc, World.size_drew, World.size_setCell, List.mem_cons, List.not_mem_nil, or_false, forall_eq_or_imp, forall_eq, At, and_true, Nat.zero_add, Nat.reduceAdd, List.set_cons_zero, List.set_cons_succ] at o
      go_upto_if 44 with (fail)
      go_cut [10] (fun s10 wx => ∃ (K : List HoldD), K.length ≤ 5 ∧ Own 41 wx w3.heap.size s10 3 HoldD.enc K ∧ Rz wx r [n6, n4] (.slice o1 P.length c1) P ∧ Rz wx r [n6, n4] (.slice o2 M.length c2) M ∧ Rd wx r k' ∧ Fr r w wx [(n6, [.int .i64 f, .int .i64 b, .slice o1 P.length c1, .int .i64 lk, .slice o2 M.length c2]), (n4, [.int .i64 0, .int .i64 0, .slice none 0 0, .int .i64 0, .slice none 0 0])] ∧ Fr r w3 wx [])
      case first =>
        cases bo with
        | false =>
          go_wp2_with fail
          go_meet
          case rel => exact ⟨H, by omega, hH, hP, hM, hR, hF, hG⟩
        | true =>
          have hp0 := hbo.out rfl
          obtain ⟨pb, po, rfl⟩ := Ints.some hP.it.1 hp0
          obtain ⟨x, hx⟩ := get_lt (show P.length - 1 < P.length by omega)
          have cx := Ints.get hP.it.1 hx
          have hpb : pb < n6 := hPn.out pb rfl
          obtain ⟨wb, hwb⟩ : ∃ wb : World, wb = wc := ⟨_, rfl⟩
          rw [← hwb] at hF hP hM hR hG hH cx o ⊢
          clear hwb hx
          have hsG := hG.kp.size
          have hn63 : n6 < w3.heap.size := by omega
          have HC := Lib.hid (show wb.cell? ⟨n6, 0, none⟩ = some (.int .i64 f) ∧ wb.cell? ⟨n6, 1, none⟩ = some (.int .i64 b) ∧ wb.cell? ⟨n6, 2, none⟩ = some (.slice (some ⟨pb, po, none⟩) P.length c1) ∧ wb.cell? ⟨pb, po + (P.length - 1), none⟩ = some (.int .i64 x) by simp [o, cx])
          have HH := Lib.hid hH
          have HST := Lib.hid (show Rz wb r [n6, n4] (.slice (some ⟨pb, po, none⟩) P.length c1) P ∧ Rz wb r [n6, n4] (.slice o2 M.length c2) M ∧ Rd wb r k' ∧ Fr r w wb [(n6, [.int .i64 f, .int .i64 b, .slice (some ⟨pb, po, none⟩) P.length c1, .int .i64 lk, .slice o2 M.length c2]), (n4, [.int .i64 0, .int .i64 0, .slice none 0 0, .int .i64 0, .slice none 0 0])] ∧ Fr r w3 wb [] from ⟨hP, hM, hR, hF, hG⟩)
          have hQ := Fb.start wb
          clear hH hP hM hR hF hG o cx hbo
          have d1 : ((P.length : Int) - 1).toNat = P.length - 1 := by omega
          have d2 : IntKind.i64.wrap ((P.length : Int) - 1) = (P.length : Int) - 1 := IntWalk.i64_in _ (by have := hP4.1; omega)
          have d3 : (0 : Int) ≤ (P.length : Int) - 1 := by omega
          have d4 : (P.length : Int) - 1 < (P.length : Int) := by omega
          have d5 : (1 : Int) ≤ (P.length : Int) := by omega
          obtain ⟨q0, q1, q2, q3⟩ := HC.out
          go_wp2_with fail
          go_region_held3 (fun w' => w'.cell? ⟨n6, 0, none⟩ = some (.int .i64 f) ∧ w'.cell? ⟨n6, 1, none⟩ = some (.int .i64 b) ∧ w'.cell? ⟨n6, 2, none⟩ = some (.slice (some ⟨pb, po, none⟩) P.length c1) ∧ w'.cell? ⟨pb, po + (P.length - 1), none⟩ = some (.int .i64 x))
            (first | (with_reducible assumption) | (exact ⟨(hB8.cell (p := ⟨n6, 0, none⟩) hn63).trans HC.out.1, (hB8.cell (p := ⟨n6, 1, none⟩) hn63).trans HC.out.2.1, (hB8.cell (p := ⟨n6, 2, none⟩) hn63).trans HC.out.2.2.1, (hB8.cell (p := ⟨pb, po + (P.length - 1), none⟩) (Nat.lt_trans hpb hn63)).trans HC.out.2.2.2⟩) | (exact ⟨Fb.old (w := wb) (L := []) (by repeat (first | assumption | apply Fb.alloc_1 | apply Fb.alloc_2 | apply Fb.alloc_3 | apply Fb.alloc_4 | apply Fb.alloc_5 | apply Fb.alloc_8 | apply Fb.drew | apply Fb.drewN | apply Fb.other)) HC.out.1, Fb.old (w := wb) (L := []) (by repeat (first | assumption | apply Fb.alloc_1 | apply Fb.alloc_2 | apply Fb.alloc_3 | apply Fb.alloc_4 | apply Fb.alloc_5 | apply Fb.alloc_8 | apply Fb.drew | apply Fb.drewN | apply Fb.other)) HC.out.2.1, Fb.old (w := wb) (L := []) (by repeat (first | assumption | apply Fb.alloc_1 | apply Fb.alloc_2 | apply Fb.alloc_3 | apply Fb.alloc_4 | apply Fb.alloc_5 | apply Fb.alloc_8 | apply Fb.drew | apply Fb.drewN | apply Fb.other)) HC.out.2.2.1, Fb.old (w := wb) (L := []) (by repeat (first | assumption | apply Fb.alloc_1 | apply Fb.alloc_2 | apply Fb.alloc_3 | apply Fb.alloc_4 | apply Fb.alloc_5 | apply Fb.alloc_8 | apply Fb.drew | apply Fb.drewN | apply Fb.other)) HC.out.2.2.2⟩))
            ((refine step_app1 (by rfl) _ _ 42 (by rfl) 41 (.agg #[.int .i64 0, .int .i64 0, .int .i64 0]) 3 24 Tryd.underlying42 infoHold rfl (by decide) (by decide) w3.heap.size HoldD.enc _ H (by rfl) (HH.out.below (Fb.kp (W := wb) (L := []) (by repeat (first | assumption | apply Fb.alloc_1 | apply Fb.alloc_2 | apply Fb.alloc_3 | apply Fb.alloc_4 | apply Fb.alloc_5 | apply Fb.alloc_8 | apply Fb.drew | apply Fb.drewN | apply Fb.other)))) (⟨x, f, b⟩ : HoldD) ⟨_, 0, none⟩ 1 (by rfl) rfl (by first | exact cells_new _ _ _ | exact cells_newD _ _ _) (by simp [HoldD.enc, Value.oneCell']) (by omega) (Nat.le_trans hsG (Below.size (Fb.kp (W := wb) (L := []) (by repeat (first | assumption | apply Fb.alloc_1 | apply Fb.alloc_2 | apply Fb.alloc_3 | apply Fb.alloc_4 | apply Fb.alloc_5 | apply Fb.alloc_8 | apply Fb.drew | apply Fb.drewN | apply Fb.other))))) ?_; intro v8 w8 hO8 hg8 hb8 hf8; have hB8 : Below w3.heap.size wb w8 := Below.trans ((Fb.kp (W := wb) (L := []) (by repeat (first | assumption | apply Fb.alloc_1 | apply Fb.alloc_2 | apply Fb.alloc_3 | apply Fb.alloc_4 | apply Fb.alloc_5 | apply Fb.alloc_8 | apply Fb.drew | apply Fb.drewN | apply Fb.other))).mono hsG) hb8; clear hg8 hb8 hf8))
          all_goals
            go_wp2_with fail
            go_meet
            case rel => exact ⟨H ++ [⟨x, f, b⟩], by simp; omega, by assumption, HST.out.1.belowB hB8 (fun g hg => Nat.lt_trans (hPn.out g hg) hn63), HST.out.2.1.belowB hB8 (fun g hg => Nat.lt_trans (hMn.out g hg) hn63), HST.out.2.2.1.below hB8 (by omega), HST.out.2.2.2.1.belowB hB8 (by omega) (by simp; omega), HST.out.2.2.2.2.belowB hB8 (Nat.le_refl _) (by simp)⟩
      case rest =>
        clear hF hP hM hR hG hH o
        obtain ⟨K, hK5, hH, hP, hM, hR, hF, hG⟩ := hcut
        have hGc := hG.kp.size
        have o := hF.own; simp only [World.size_alloc, World.size_drew, World.size_setCell, List.mem_cons, List.not_mem_nil, or_false, forall_eq_or_imp, forall_eq, At, and_true, Nat.zero_add, Nat.reduceAdd, List.set_cons_zero, List.set_cons_succ] at o
        go_wp2_with fail
        refine (l91Route_any r _ _ hR (by omega)).mono ?_; rintro e w5 ⟨f2, b2, lk2, pv2, mv2, P2, M2, rfl, hP2, hM2, hP24, hM29, -, -, ⟨k5, hk5, hR5⟩, hK5'⟩
        have hs5 := hK5'.size
        have hr5 := hR5.lt
        obtain ⟨n11, hn11⟩ : ∃ n, w5.heap.size = n := ⟨_, rfl⟩
        replace hF := (hF.call hK5').alloc [.int .i64 f2, .int .i64 b2, pv2, .int .i64 lk2, mv2] 35 hr5
        replace hG := (hG.call hK5').other (.cells #[.int .i64 f2, .int .i64 b2, pv2, .int .i64 lk2, mv2] 35)
        replace hP := (hP.kp hK5').below ((Below.refl _ _).alloc (Nat.le_refl _) (.cells #[.int .i64 f2, .int .i64 b2, pv2, .int .i64 lk2, mv2] 35))
        replace hM := (hM.kp hK5').below ((Below.refl _ _).alloc (Nat.le_refl _) (.cells #[.int .i64 f2, .int .i64 b2, pv2, .int .i64 lk2, mv2] 35))
        replace hH := (hH.kp hK5' (by omega)).alloc (.cells #[.int .i64 f2, .int .i64 b2, pv2, .int .i64 lk2, mv2] 35)
        have hI2 := Rows.alloc hP2.1.1 (.cells #[.int .i64 f2, .int .i64 b2, pv2, .int .i64 lk2, mv2] 35)
        have hJ2 := Rows.alloc hM2.1.1 (.cells #[.int .i64 f2, .int .i64 b2, pv2, .int .i64 lk2, mv2] 35)
        have HFp : Hid (Fresh (r + 1) pv2 ∧ Fresh (r + 1) mv2) := ⟨fun g hg => by have := (hP2.2 g hg).1; have := hR.lt; omega, fun g hg => by have := (hM2.2 g hg).1; have := hR.lt; omega⟩
        replace hR5 := hR5.alloc (.cells #[.int .i64 f2, .int .i64 b2, pv2, .int .i64 lk2, mv2] 35)
        obtain ⟨p3, d3, rfl, -⟩ := hP2.1.1.ex
        obtain ⟨p4, d4, rfl, -⟩ := hM2.1.1.ex
        clear hP2 hM2 hK5' hR o
        go_upto_region 12 with (fail)
        rw [hn11] at hF
        obtain ⟨wb, hwb⟩ : ∃ wb : World, wb = w5.alloc (.cells #[.int .i64 f2, .int .i64 b2, .slice p3 P2.length d3, .int .i64 lk2, .slice p4 M2.length d4] 35) := ⟨_, rfl⟩
        rw [← hwb]
        rw [← hwb] at hF hG hP hM hH hI2 hJ2 hR5
        clear hwb
        have o := hF.own; simp only [World.size_alloc, World.size_drew, World.size_setCell, List.mem_cons, List.not_mem_nil, or_false, forall_eq_or_imp, forall_eq, At, and_true, Nat.zero_add, Nat.reduceAdd, List.set_cons_zero, List.set_cons_succ] at o
        have HC := Lib.hid (show wb.cell? ⟨n11, 0, none⟩ = some (.int .i64 f2) ∧ wb.cell? ⟨n11, 1, none⟩ = some (.int .i64 b2) ∧ wb.cell? ⟨n11, 2, none⟩ = some (.slice p3 P2.length d3) ∧ wb.cell? ⟨n11, 3, none⟩ = some (.int .i64 lk2) ∧ wb.cell? ⟨n11, 4, none⟩ = some (.slice p4 M2.length d4) by simp [o])
        obtain ⟨ds, hOd, hRd⟩ := HS.out
        have hGs := hG.kp.size
        have HOd := Lib.hid (hOd.kp hG.kp (by omega))
        have HRd := Lib.hid (hRd.kp hG.kp (by omega))
        have HH := Lib.hid hH
        have HI := Lib.hid hI2
        have HJ := Lib.hid hJ2
        have HST := Lib.hid (show Rz wb r [n6, n4] (.slice o1 P.length c1) P ∧ Rz wb r [n6, n4] (.slice o2 M.length c2) M ∧ Fr r w wb [(n6, [.int .i64 f, .int .i64 b, .slice o1 P.length c1, .int .i64 lk, .slice o2 M.length c2]), (n4, [.int .i64 0, .int .i64 0, .slice none 0 0, .int .i64 0, .slice none 0 0])] from ⟨hP, hM, hF.rest⟩)
        have hQ := Fr.start r wb
        have h11r : n11 ≠ r := by omega
        have hwn : w.heap.size ≤ n4 := by omega
        have hgs := hSlt.out
        have h11s : w3.heap.size ≤ n11 := by rw [← hn11]; omega
        have h11g : some n11 ≠ (Value.slice (some ⟨gs, 0, none⟩) ns cs).ownBlock := fun e => by have e2 : n11 = gs := Option.some.inj e; omega
        have hds : ds.length ≤ 4 := by rw [hRd.1]; exact Nat.le_trans (sealsOf_len ..) hP4.1
        have hn63 : n6 < w3.heap.size := by omega
        have tok1 : True := trivial
        clear hOd hRd hI2 hJ2 hH hP hM hF hG o hn11 hn4 hn6 hs5
        obtain ⟨q0, q1, q2, q3, q4⟩ := HC.out
        go_cut [9] (fun s9 wx => ∃ (L : List Sl) (k' : Nat), k' ≤ k + 402 ∧ Hid (L.length ≤ 8) ∧ Hid (∀ s ∈ L, SmS s) ∧ SOwn wx (n6 + 1) s9 L ∧ Own 41 wx w3.heap.size u10 3 HoldD.enc K ∧ Rz wx r [n6, n4] (.slice o1 P.length c1) P ∧ Rz wx r [n6, n4] (.slice o2 M.length c2) M ∧ Rd wx r k' ∧ Fr r w wx [(n6, [.int .i64 f, .int .i64 b, .slice o1 P.length c1, .int .i64 lk, .slice o2 M.length c2]), (n4, [.int .i64 0, .int .i64 0, .slice none 0 0, .int .i64 0, .slice none 0 0])])
        case first =>
          go_region_held3 (fun w' => w'.cell? ⟨n11, 0, none⟩ = some (.int .i64 f2) ∧ w'.cell? ⟨n11, 1, none⟩ = some (.int .i64 b2) ∧ w'.cell? ⟨n11, 2, none⟩ = some (.slice p3 P2.length d3) ∧ w'.cell? ⟨n11, 3, none⟩ = some (.int .i64 lk2) ∧ w'.cell? ⟨n11, 4, none⟩ = some (.slice p4 M2.length d4))
            (first | (with_reducible assumption) | (exact ⟨Fr.old (w := wb) (L := []) (by repeat (first | assumption | apply Fr.drew | apply Fr.drewN | apply Fr.alloc_1 | apply Fr.alloc_2 | apply Fr.alloc_3 | apply Fr.alloc_4 | apply Fr.alloc_5 | apply Fr.alloc_8 | apply Fr.set | (simp only [List.length_cons, List.length_nil, List.length_set]; omega) | (simp only [List.mem_cons, List.not_mem_nil, or_false, forall_eq_or_imp, forall_eq, ne_eq]; omega) | (simp only [World.size_alloc, World.size_setCell, World.size_drew]; omega) | omega)) HC.out.1 h11r, Fr.old (w := wb) (L := []) (by repeat (first | assumption | apply Fr.drew | apply Fr.drewN | apply Fr.alloc_1 | apply Fr.alloc_2 | apply Fr.alloc_3 | apply Fr.alloc_4 | apply Fr.alloc_5 | apply Fr.alloc_8 | apply Fr.set | (simp only [List.length_cons, List.length_nil, List.length_set]; omega) | (simp only [List.mem_cons, List.not_mem_nil, or_false, forall_eq_or_imp, forall_eq, ne_eq]; omega) | (simp only [World.size_alloc, World.size_setCell, World.size_drew]; omega) | omega)) HC.out.2.1 h11r, Fr.old (w := wb) (L := []) (by repeat (first | assumption | apply Fr.drew | apply Fr.drewN | apply Fr.alloc_1 | apply Fr.alloc_2 | apply Fr.alloc_3 | apply Fr.alloc_4 | apply Fr.alloc_5 | apply Fr.alloc_8 | apply Fr.set | (simp only [List.length_cons, List.length_nil, List.length_set]; omega) | (simp only [List.mem_cons, List.not_mem_nil, or_false, forall_eq_or_imp, forall_eq, ne_eq]; omega) | (simp only [World.size_alloc, World.size_setCell, World.size_drew]; omega) | omega)) HC.out.2.2.1 h11r, Fr.old (w := wb) (L := []) (by repeat (first | assumption | apply Fr.drew | apply Fr.drewN | apply Fr.alloc_1 | apply Fr.alloc_2 | apply Fr.alloc_3 | apply Fr.alloc_4 | apply Fr.alloc_5 | apply Fr.alloc_8 | apply Fr.set | (simp only [List.length_cons, List.length_nil, List.length_set]; omega) | (simp only [List.mem_cons, List.not_mem_nil, or_false, forall_eq_or_imp, forall_eq, ne_eq]; omega) | (simp only [World.size_alloc, World.size_setCell, World.size_drew]; omega) | omega)) HC.out.2.2.2.1 h11r, Fr.old (w := wb) (L := []) (by repeat (first | assumption | apply Fr.drew | apply Fr.drewN | apply Fr.alloc_1 | apply Fr.alloc_2 | apply Fr.alloc_3 | apply Fr.alloc_4 | apply Fr.alloc_5 | apply Fr.alloc_8 | apply Fr.set | (simp only [List.length_cons, List.length_nil, List.length_set]; omega) | (simp only [List.mem_cons, List.not_mem_nil, or_false, forall_eq_or_imp, forall_eq, ne_eq]; omega) | (simp only [World.size_alloc, World.size_setCell, World.size_drew]; omega) | omega)) HC.out.2.2.2.2 h11r⟩))
            (first
              | (go_at_call 32; go_must (refine (pick_any r _ _ _ (by repeat (first | assumption | apply Rd.alloc | apply Rd.drew | apply Rd.drewN | (refine Rd.setCell ?_ (by dsimp only; omega) _) | apply Rd.setCell | ((try dsimp only); omega))) (by omega) (by omega) (by omega)).mono ?_); rintro e wx ⟨vx, rfl, ux, lx, hRx, hKx⟩; replace hQ := Fr.call (W := wb) (L := []) (by repeat (first | assumption | apply Fr.drew | apply Fr.drewN | apply Fr.alloc_1 | apply Fr.alloc_2 | apply Fr.alloc_3 | apply Fr.alloc_4 | apply Fr.alloc_5 | apply Fr.alloc_8 | apply Fr.set | (simp only [List.length_cons, List.length_nil, List.length_set]; omega) | (simp only [List.mem_cons, List.not_mem_nil, or_false, forall_eq_or_imp, forall_eq, ne_eq]; omega) | (simp only [World.size_alloc, World.size_setCell, World.size_drew]; omega) | omega)) hKx; replace hR5 := hRx; clear hRx hKx; have hwv : IntKind.i64.wrap (1 + vx) = 1 + vx := IntWalk.i64_in _ (by omega))
              | (go_at_call 18; have hz1 := Rows.kp HI.out (hQ.kp) HFp.out.1 (Nat.lt_succ_self r); have hz2 := Rows.kp HJ.out (hQ.kp) HFp.out.2 (Nat.lt_succ_self r); have hz3 := sSealMake_any f2 b2 lk2 _ _ P2 M2 (1 + vx) _ hz1 hz2 (Nat.le_trans hP24.1 (by omega)); clear hz1 hz2; go_fit hz3; clear hz3; rintro e wy ⟨u3, rfl, hS3, ⟨gs3, ns3, cs3, rfl⟩, hb3⟩; have hB3 := Fr.kp (W := wb) (L := []) (by repeat (first | assumption | apply Fr.drew | apply Fr.drewN | apply Fr.alloc_1 | apply Fr.alloc_2 | apply Fr.alloc_3 | apply Fr.alloc_4 | apply Fr.alloc_5 | apply Fr.alloc_8 | apply Fr.set | (simp only [List.length_cons, List.length_nil, List.length_set]; omega) | (simp only [List.mem_cons, List.not_mem_nil, or_false, forall_eq_or_imp, forall_eq, ne_eq]; omega) | (simp only [World.size_alloc, World.size_setCell, World.size_drew]; omega) | omega)); have hns3 : ns3 ≤ 4 := (by obtain ⟨ao, cap, e⟩ := hS3.sl; injection e with _ e; rw [e]; exact Nat.le_trans (sealsOf_len ..) hP24.1); have hsq := hB3.size; replace hQ := Fr.below (W := wb) (L := []) (by repeat (first | assumption | apply Fr.drew | apply Fr.drewN | apply Fr.alloc_1 | apply Fr.alloc_2 | apply Fr.alloc_3 | apply Fr.alloc_4 | apply Fr.alloc_5 | apply Fr.alloc_8 | apply Fr.set | (simp only [List.length_cons, List.length_nil, List.length_set]; omega) | (simp only [List.mem_cons, List.not_mem_nil, or_false, forall_eq_or_imp, forall_eq, ne_eq]; omega) | (simp only [World.size_alloc, World.size_setCell, World.size_drew]; omega) | omega)) hb3; replace hR5 := Rd.below hR5 hb3 hR5.lt; have hs6 := hb3.size; obtain ⟨es, hOe, hRe⟩ := hS3; have hRo := Own.rows hOe (fun _ => rfl); have HOne := Lib.hid hRe.one; have HRe := Lib.hid hRe; clear hb3 hOe hRe hB3)
              | (clear tok1; refine step_appsM (by rfl) _ _ 23 (by rfl) 28 (.agg #[.int .i64 0, .int .i64 0, .int .i64 0, .int .i64 0, .slice none 0 0]) 5 56 Tryd.underlying23 infoSl rfl (by decide) (by decide) (n6 + 1) encS (fun _ => rfl) (.slice (some ⟨gs, 0, none⟩) ns cs) ds (by rfl) (HOd.out.kp (Fr.kp (W := wb) (L := []) (by repeat (first | assumption | apply Fr.drew | apply Fr.drewN | apply Fr.alloc_1 | apply Fr.alloc_2 | apply Fr.alloc_3 | apply Fr.alloc_4 | apply Fr.alloc_5 | apply Fr.alloc_8 | apply Fr.set | (simp only [List.length_cons, List.length_nil, List.length_set]; omega) | (simp only [List.mem_cons, List.not_mem_nil, or_false, forall_eq_or_imp, forall_eq, ne_eq]; omega) | (simp only [World.size_alloc, World.size_setCell, World.size_drew]; omega) | omega))) (by omega)) gs3 0 ns3 cs3 es HOne.out (by rfl) hRo (by omega) (by omega) ?_; intro v9 w9 hO9 hg9 hb9 hf9; have hk9 := Fr.kp (W := wb) (L := []) (by repeat (first | assumption | apply Fr.drew | apply Fr.drewN | apply Fr.alloc_1 | apply Fr.alloc_2 | apply Fr.alloc_3 | apply Fr.alloc_4 | apply Fr.alloc_5 | apply Fr.alloc_8 | apply Fr.set | (simp only [List.length_cons, List.length_nil, List.length_set]; omega) | (simp only [List.mem_cons, List.not_mem_nil, or_false, forall_eq_or_imp, forall_eq, ne_eq]; omega) | (simp only [World.size_alloc, World.size_setCell, World.size_drew]; omega) | omega)); have hC9 : w9.cell? ⟨n11, 0, none⟩ = some (.int .i64 f2) ∧ w9.cell? ⟨n11, 1, none⟩ = some (.int .i64 b2) ∧ w9.cell? ⟨n11, 2, none⟩ = some (.slice p3 P2.length d3) ∧ w9.cell? ⟨n11, 3, none⟩ = some (.int .i64 lk2) ∧ w9.cell? ⟨n11, 4, none⟩ = some (.slice p4 M2.length d4) := ⟨hg9.cell (hk9.cell HC.out.1 h11r) h11g, hg9.cell (hk9.cell HC.out.2.1 h11r) h11g, hg9.cell (hk9.cell HC.out.2.2.1 h11r) h11g, hg9.cell (hk9.cell HC.out.2.2.2.1 h11r) h11g, hg9.cell (hk9.cell HC.out.2.2.2.2 h11r) h11g⟩; have hS9 : SOwn w9 (n6 + 1) v9 (sealsOf t f b lk P M ++ sealsOf (1 + vx) f2 b2 lk2 P2 M2) := ⟨_, hO9, SRel.apps (HRd.out.kp hk9 (by omega)) HRe.out (by omega) (by omega) (Nat.le_refl _) hg9 hf9 (fun g hg => by have e2 : gs = g := Option.some.inj hg; omega)⟩; have hH9 := (HH.out.kp hk9 (by omega)).grown (u := .slice (some ⟨gs, 0, none⟩) ns cs) hg9 (fun g h1 h2 => by have := HH.out.ge g h1; have e2 : gs = g := Option.some.inj h2; omega); clear hO9 hg9 hf9))
          all_goals
            have hP := (HST.out.1.kp hk9).belowB hb9 (fun g hg => by have := hPn.out g hg; omega)
            have hM := (HST.out.2.1.kp hk9).belowB hb9 (fun g hg => by have := hMn.out g hg; omega)
            have hF := (HST.out.2.2.call hk9).belowB hb9 (by omega) (by simp; omega)
            have hR9 := hR5.below hb9 (by omega)
            have hsm9 : Hid (∀ s ∈ sealsOf t f b lk P M ++ sealsOf (1 + vx) f2 b2 lk2 P2 M2, SmS s) := fun s hs => (List.mem_append.1 hs).elim (fun h => sealsOf_sm hP4 s h) (fun h => sealsOf_sm hP24 s h)
            have hl9 : Hid ((sealsOf t f b lk P M ++ sealsOf (1 + vx) f2 b2 lk2 P2 M2).length ≤ 8) := by
              show _ ≤ 8
              rw [List.length_append]
              have h1 := sealsOf_len t f b lk P M
              have h2 := sealsOf_len (1 + vx) f2 b2 lk2 P2 M2
              have := hP4.1
              have := hP24.1
              omega
            obtain ⟨L, hL⟩ : ∃ L, sealsOf t f b lk P M ++ sealsOf (1 + vx) f2 b2 lk2 P2 M2 = L := ⟨_, rfl⟩
            rw [hL] at hS9 hsm9 hl9
            clear hL hC9 hk9 hb9 hR5 hQ HST HC HH HI HJ HOd HRd HRe HOne hRo hwv
            go_wp2_with fail
            go_meet
            case rel => exact ⟨L, _, by omega, hl9, hsm9, hS9, hH9, hP, hM, hR9, hF⟩
        case rest =>
          clear hR5 hQ HST HC HH HI HJ HOd HRd HS q0 q1 q2 q3 q4
          obtain ⟨L, k', hk', hL8, hLs, hS, hH, hP, hM, hR, hF⟩ := hcut
          have o := hF.own; simp only [World.size_alloc, World.size_drew, World.size_setCell, List.mem_cons, List.not_mem_nil, or_false, forall_eq_or_imp, forall_eq, At, and_true, Nat.zero_add, Nat.reduceAdd, List.set_cons_zero, List.set_cons_succ] at o
          go_wp2_with fail
          refine (pick_any r _ _ _ hR (by omega) (by omega) (by omega)).mono ?_; rintro e wx ⟨vx, rfl, ux, lx, hRx, hKx⟩
          replace hF := hF.call hKx
          replace hP := hP.kp hKx
          replace hM := hM.kp hKx
          (try replace hS := hS.kp hKx (by omega))
          (try clear o)
          replace hH := hH.kp hKx (by omega)
          clear hKx hR
          have o := hF.own; simp only [World.size_alloc, World.size_drew, World.size_setCell, List.mem_cons, List.not_mem_nil, or_false, forall_eq_or_imp, forall_eq, At, and_true, Nat.zero_add, Nat.reduceAdd, List.set_cons_zero, List.set_cons_succ] at o
          go_upto_block 2 with (fail)
          go_cut [7, 9] (fun s7 s9 wx => ∃ (t : Int) (L : List Sl) (k' : Nat) (P' : List Int) (qo : Option Addr) (qn qc : Nat), s7 = .int .i64 t ∧ 0 ≤ t ∧ t ≤ 6 ∧ k' ≤ k + 410 ∧ Hid (L.length ≤ 8) ∧ Hid (∀ s ∈ L, SmS s) ∧ SOwn wx (n6 + 1) s9 L ∧ Own 41 wx w3.heap.size u10 3 HoldD.enc K ∧ L4 P' ∧ Rz wx r [n6, n4] (.slice qo qn qc) P' ∧ Rz wx r [n6, n4] (.slice o2 M.length c2) M ∧ Rd wx r k' ∧ Fr r w wx [(n6, [.int .i64 f, .int .i64 b, .slice qo qn qc, .int .i64 lk, .slice o2 M.length c2]), (n4, [.int .i64 0, .int .i64 0, .slice none 0 0, .int .i64 0, .slice none 0 0])])
          case first =>
            obtain ⟨uo, uc, rfl⟩ := hS.sl
            by_cases z0 : vx = 0
            · subst z0
              by_cases hL0 : L.length = 0
              · have dl : decide (0 < L.length) = false := by simp; exact List.length_eq_zero_iff.1 hL0
                clear hL0
                go_wp2_with fail
                go_meet
                case rel => exact ⟨t, L, k' + 1, P, _, _, _, rfl, ht0, ht6, by omega, hL8, hLs, hS, hH, hP4, hP, hM, hRx, hF⟩
              · have dl : decide (0 < L.length) = true := decide_eq_true (by omega)
                have hl1 : 0 < L.length := by omega
                have hl8 := hL8.out
                clear hL0
                go_wp2_with fail
                refine (pick_any r _ _ _ hRx (by omega) (by omega) (by omega)).mono ?_; rintro e wb ⟨vy, rfl, uy, ly, hRy, hKy⟩
                replace hF := hF.call hKy
                replace hP := hP.kp hKy
                replace hM := hM.kp hKy
                (try replace hS := hS.kp hKy (by omega))
                (try clear o)
                replace hH := hH.kp hKy (by omega)
                clear hKy hRx
                obtain ⟨iy, rfl⟩ := Int.eq_ofNat_of_zero_le uy
                have hiy : iy < L.length := by omega
                obtain ⟨ds, hO, hRl⟩ := hS
                have hdl : ds.length = L.length := hRl.1
                obtain ⟨g9, c9, e9, hc9, hc9'⟩ := own_some5 hO (by omega)
                injection e9 with e9 en e10
                subst e9; subst e10
                clear en
                have HDL := Lib.hid hdl
                clear hdl
                go_upto_region 17 with (fail)
                have hcu : L.length ≤ uc := by rw [← HDL.out]; exact hc9
                have hRo := hO.rows (fun _ => rfl)
                have hT1 := Lib.hid (rows_take hRo (k := iy) (by omega))
                have hT2 := Lib.hid (rows_drop hRo (k := iy + 1) (by omega))
                have hOne1 := Lib.hid (fun d (hd : d ∈ ds.take iy) => hRl.one d (List.mem_of_mem_take hd))
                have hOne2 := Lib.hid (fun d (hd : d ∈ ds.drop (iy + 1)) => hRl.one d (List.mem_of_mem_drop hd))
                have HRl := Lib.hid hRl
                have HH := Lib.hid hH
                have HST := Lib.hid (show Rz wb r [n6, n4] (.slice o1 P.length c1) P ∧ Rz wb r [n6, n4] (.slice o2 M.length c2) M ∧ Rd wb r (k' + 1 + 1) ∧ Fr r w wb [(n6, [.int .i64 f, .int .i64 b, .slice o1 P.length c1, .int .i64 lk, .slice o2 M.length c2]), (n4, [.int .i64 0, .int .i64 0, .slice none 0 0, .int .i64 0, .slice none 0 0])] from ⟨hP, hM, hRy, hF⟩)
                have hQ := Fb.start wb
                have hn6w : n6 + 1 ≤ wb.heap.size := by have := hO.lt g9 rfl; have := hO.ge g9 rfl; omega
                have g0 : (0 : Int) ≤ (iy : Int) := by omega
                have g1 : (iy : Int) ≤ (uc : Int) := by omega
                have g2 : (iy : Int) + 1 ≤ (L.length : Int) := by omega
                have g4 : IntKind.i64.wrap ((iy : Int) + 1) = (iy : Int) + 1 := IntWalk.i64_in _ (by omega)
                have g5 : ((iy : Int) + 1).toNat = iy + 1 := by omega
                have g6 : (0 : Int) ≤ (iy : Int) + 1 := by omega
                have g7 : (L.length : Int) ≤ (uc : Int) := by omega
                have g8 : (iy : Int) + 1 ≤ (uc : Int) := by omega
                have tok2 : True := trivial
                clear hP hM hRy hF hH hO hRo hRl hc9
                have tok3 : True := trivial
                by_cases hcap : uc = iy + 1
                · have hcn : L.length = iy + 1 := by omega
                  have hT3 : Hid (Rows wb (.slice (some ⟨g9, 0, none⟩) 0 0) 5 encS (ds.drop (iy + 1))) := by
                    have e : ds.drop (iy + 1) = [] := List.drop_eq_nil_of_le (by rw [HDL.out]; omega)
                    show Rows _ _ _ _ _
                    rw [e]; exact Rows.nil _ _ _ (by omega) _ _
                  have hcap2 : iy + 1 = uc := hcap.symm
                  have hcn2 : L.length = uc := by omega
                  clear hcap hcn
                  go_region_held3 (fun _ => True) (trivial)
                    (first
                      | (clear tok2; refine step_appsM (by rfl) _ _ 23 (by rfl) 28 (.agg #[.int .i64 0, .int .i64 0, .int .i64 0, .int .i64 0, .slice none 0 0]) 5 56 Tryd.underlying23 infoSl rfl (by decide) (by decide) wb.heap.size encS (fun _ => rfl) (.slice (some ⟨wb.heap.size, 0, none⟩) 0 0) [] (by rfl) (Own.drew (Own.made _ wb _ _ _ (Nat.le_refl _))) g9 0 iy uc (ds.take iy) hOne1.out (by rfl) (hT1.out.below (Fb.kp (W := wb) (L := []) (by repeat (first | assumption | apply Fb.alloc_1 | apply Fb.alloc_2 | apply Fb.alloc_3 | apply Fb.alloc_4 | apply Fb.alloc_5 | apply Fb.alloc_8 | apply Fb.drew | apply Fb.drewN | apply Fb.other)))) (by simp; omega) (Below.size (Fb.kp (W := wb) (L := []) (by repeat (first | assumption | apply Fb.alloc_1 | apply Fb.alloc_2 | apply Fb.alloc_3 | apply Fb.alloc_4 | apply Fb.alloc_5 | apply Fb.alloc_8 | apply Fb.drew | apply Fb.drewN | apply Fb.other)))) ?_; intro v8 w8 hO8 hg8 hb8 hf8; rw [List.nil_append] at hO8; have hQ8 : Below wb.heap.size wb w8 := Below.trans (Fb.kp (W := wb) (L := []) (by repeat (first | assumption | apply Fb.alloc_1 | apply Fb.alloc_2 | apply Fb.alloc_3 | apply Fb.alloc_4 | apply Fb.alloc_5 | apply Fb.alloc_8 | apply Fb.drew | apply Fb.drewN | apply Fb.other))) hb8; clear hg8 hb8 hf8)
                      | (clear tok3; refine step_appsM (by rfl) _ _ 23 (by rfl) 28 (.agg #[.int .i64 0, .int .i64 0, .int .i64 0, .int .i64 0, .slice none 0 0]) 5 56 Tryd.underlying23 infoSl rfl (by decide) (by decide) wb.heap.size encS (fun _ => rfl) v8 (ds.take iy) (by rfl) hO8 g9 0 0 0 (ds.drop (iy + 1)) hOne2.out (by rfl) (hT3.out.below hQ8) (by rw [List.length_take]; omega) hQ8.size ?_; intro v9 w9 hO9 hg9 hb9 hf9; have hQ9 : Below wb.heap.size wb w9 := hQ8.trans hb9; clear hg9 hb9 hf9))
                  all_goals
                    have hS9 : SOwn w9 (n6 + 1) v9 (L.take iy ++ L.drop (iy + 1)) := ⟨_, hO9.base hn6w, (((((HRl.out.below hQ9).take iy).append ((HRl.out.below hQ9).drop (iy + 1))).re (v' := v9) (fun u hu g h1 h2 => by have := hu g h1; have := hO9.ge g h2; omega)).mono (Nat.le_refl _) hQ9.size)⟩
                    have hK9 : Kp r wb w9 := (Kp.refl r wb).of_below hQ9
                    go_wp2_with fail
                    go_meet
                    case rel => exact ⟨t, L.take iy ++ L.drop (iy + 1), k' + 1 + 1, P, _, _, _, rfl, ht0, ht6, by omega, (by rw [List.length_append, List.length_take, List.length_drop]; omega : (L.take iy ++ L.drop (iy + 1)).length ≤ 8), fun s hs => (List.mem_append.1 hs).elim (fun h => hLs.out s (List.mem_of_mem_take h)) (fun h => hLs.out s (List.mem_of_mem_drop h)), hS9, HH.out.below hQ9, hP4, HST.out.1.below hQ9, HST.out.2.1.below hQ9, HST.out.2.2.1.below hQ9 (by omega), HST.out.2.2.2.below hQ9⟩
                · have hT3 : Hid (Rows wb (.slice (some ⟨g9, (iy + 1) * 5, none⟩) (L.length - (iy + 1)) (uc - (iy + 1))) 5 encS (ds.drop (iy + 1))) := by
                    have := hT2.out
                    rw [Nat.zero_add] at this
                    exact this
                  go_region_held3 (fun _ => True) (trivial)
                    (first
                      | (clear tok2; refine step_appsM (by rfl) _ _ 23 (by rfl) 28 (.agg #[.int .i64 0, .int .i64 0, .int .i64 0, .int .i64 0, .slice none 0 0]) 5 56 Tryd.underlying23 infoSl rfl (by decide) (by decide) wb.heap.size encS (fun _ => rfl) (.slice (some ⟨wb.heap.size, 0, none⟩) 0 0) [] (by rfl) (Own.drew (Own.made _ wb _ _ _ (Nat.le_refl _))) g9 0 iy uc (ds.take iy) hOne1.out (by rfl) (hT1.out.below (Fb.kp (W := wb) (L := []) (by repeat (first | assumption | apply Fb.alloc_1 | apply Fb.alloc_2 | apply Fb.alloc_3 | apply Fb.alloc_4 | apply Fb.alloc_5 | apply Fb.alloc_8 | apply Fb.drew | apply Fb.drewN | apply Fb.other)))) (by simp; omega) (Below.size (Fb.kp (W := wb) (L := []) (by repeat (first | assumption | apply Fb.alloc_1 | apply Fb.alloc_2 | apply Fb.alloc_3 | apply Fb.alloc_4 | apply Fb.alloc_5 | apply Fb.alloc_8 | apply Fb.drew | apply Fb.drewN | apply Fb.other)))) ?_; intro v8 w8 hO8 hg8 hb8 hf8; rw [List.nil_append] at hO8; have hQ8 : Below wb.heap.size wb w8 := Below.trans (Fb.kp (W := wb) (L := []) (by repeat (first | assumption | apply Fb.alloc_1 | apply Fb.alloc_2 | apply Fb.alloc_3 | apply Fb.alloc_4 | apply Fb.alloc_5 | apply Fb.alloc_8 | apply Fb.drew | apply Fb.drewN | apply Fb.other))) hb8; clear hg8 hb8 hf8)
                      | (clear tok3; refine step_appsM (by rfl) _ _ 23 (by rfl) 28 (.agg #[.int .i64 0, .int .i64 0, .int .i64 0, .int .i64 0, .slice none 0 0]) 5 56 Tryd.underlying23 infoSl rfl (by decide) (by decide) wb.heap.size encS (fun _ => rfl) v8 (ds.take iy) (by rfl) hO8 g9 ((iy + 1) * 5) (L.length - (iy + 1)) (uc - (iy + 1)) (ds.drop (iy + 1)) hOne2.out (by rfl) (hT3.out.below hQ8) (by rw [List.length_take]; omega) hQ8.size ?_; intro v9 w9 hO9 hg9 hb9 hf9; have hQ9 : Below wb.heap.size wb w9 := hQ8.trans hb9; clear hg9 hb9 hf9))
                  all_goals
                    have hS9 : SOwn w9 (n6 + 1) v9 (L.take iy ++ L.drop (iy + 1)) := ⟨_, hO9.base hn6w, (((((HRl.out.below hQ9).take iy).append ((HRl.out.below hQ9).drop (iy + 1))).re (v' := v9) (fun u hu g h1 h2 => by have := hu g h1; have := hO9.ge g h2; omega)).mono (Nat.le_refl _) hQ9.size)⟩
                    have hK9 : Kp r wb w9 := (Kp.refl r wb).of_below hQ9
                    go_wp2_with fail
                    go_meet
                    case rel => exact ⟨t, L.take iy ++ L.drop (iy + 1), k' + 1 + 1, P, _, _, _, rfl, ht0, ht6, by omega, (by rw [List.length_append, List.length_take, List.length_drop]; omega : (L.take iy ++ L.drop (iy + 1)).length ≤ 8), fun s hs => (List.mem_append.1 hs).elim (fun h => hLs.out s (List.mem_of_mem_take h)) (fun h => hLs.out s (List.mem_of_mem_drop h)), hS9, HH.out.below hQ9, hP4, HST.out.1.below hQ9, HST.out.2.1.below hQ9, HST.out.2.2.1.below hQ9 (by omega), HST.out.2.2.2.below hQ9⟩
            · have d0 : (vx == 0) = false := by simp [z0]
              by_cases z1 : vx = 1
              · subst z1
                clear z0
                by_cases hp1 : 1 < P.length
                · have dl : decide ((1 : Int) < (P.length : Int)) = true := decide_eq_true (by omega)
                  obtain ⟨pb, po, rfl⟩ := Ints.some hP.it.1 (by omega)
                  have g1 : (1 : Int) ≤ (P.length : Int) := by omega
                  have g2 : (1 : Int) ≤ (c1 : Int) := by omega
                  have g3 : ¬ c1 = 1 := by omega
                  have hcc := (ints_capS hP.it.1).2.1
                  have o := hF.own; simp only [World.size_alloc, World.size_drew, World.size_setCell, List.mem_cons, List.not_mem_nil, or_false, forall_eq_or_imp, forall_eq, At, and_true, Nat.zero_add, Nat.reduceAdd, List.set_cons_zero, List.set_cons_succ] at o
                  go_wp2_with fail
                  go_meet
                  case rel => exact ⟨t, L, k' + 1, P.drop 1, some ⟨pb, po + 1, none⟩, P.length - 1, c1 - 1, rfl, ht0, ht6, by omega, hL8, hLs, hS.set (by simp) _, hH.set (by simp; omega) _, ⟨by rw [List.length_drop]; have := hP4.1; omega, fun y hy => hP4.2 y (List.mem_of_mem_drop hy)⟩, Rz.set (S := [n6, n4]) ⟨⟨ints_dropS hP.it.1 (by omega), Or.inr ⟨_, _, _, _, rfl⟩⟩, fun g hg => hP.lo g hg, fun p hp => hP.off p hp⟩ (by simp) _, hM.set (by simp) _, hRx.setCell (p := ⟨n6, 2, none⟩) (by dsimp only; omega) _, hF.set 2 (.slice (some ⟨pb, po + 1, none⟩) (P.length - 1) (c1 - 1)) (by simp) (by simp; omega)⟩
                · have dl : decide ((1 : Int) < (P.length : Int)) = false := decide_eq_false (by omega)
                  clear hp1
                  go_wp2_with fail
                  go_meet
                  case rel => exact ⟨t, L, k' + 1, P, _, _, _, rfl, ht0, ht6, by omega, hL8, hLs, hS, hH, hP4, hP, hM, hRx, hF⟩
              · have d1 : (vx == 1) = false := by simp [z1]
                by_cases z2 : vx = 2
                · subst z2
                  clear z0 z1
                  go_wp2_with fail
                  refine (pick_any r _ _ _ hRx (by omega) (by omega) (by omega)).mono ?_; rintro e wb ⟨vy, rfl, uy, ly, hRy, hKy⟩
                  replace hF := hF.call hKy
                  replace hP := hP.kp hKy
                  replace hM := hM.kp hKy
                  (try replace hS := hS.kp hKy (by omega))
                  (try clear o)
                  replace hH := hH.kp hKy (by omega)
                  clear hKy hRx
                  go_wp2_with fail
                  go_meet
                  case rel => exact ⟨1 + vy, L, k' + 1 + 1, P, _, _, _, rfl, by omega, by omega, by omega, hL8, hLs, hS, hH, hP4, hP, hM, hRy, hF⟩
                · have d2 : (vx == 2) = false := by simp [z2]
                  clear z0 z1 z2
                  go_wp2_with fail
                  go_meet
                  case rel => exact ⟨t, L, k' + 1, P, _, _, _, rfl, ht0, ht6, by omega, hL8, hLs, hS, hH, hP4, hP, hM, hRx, hF⟩
          case rest =>
            clear hF hP hM hS hH hRx o
            obtain ⟨t', L', k'', P', qo, qn, qc, rfl, ht0', ht6', hk'', hL8', hLs', hS, hH, hP4', hP, hM, hR, hF⟩ := hcut
            obtain ⟨uo, uc, rfl⟩ := hS.sl
            obtain ⟨vo, vc, rfl⟩ := hH.sl
            have o := hF.own; simp only [World.size_alloc, World.size_drew, World.size_setCell, List.mem_cons, List.not_mem_nil, or_false, forall_eq_or_imp, forall_eq, At, and_true, Nat.zero_add, Nat.reduceAdd, List.set_cons_zero, List.set_cons_succ] at o
            go_upto_region 23 with (fail)
            obtain ⟨wd, hwd⟩ : ∃ wd : World, wd = wc := ⟨_, rfl⟩
            rw [← hwd] at hS hH hP hM hR hF o ⊢
            clear hwd
            have HC := Lib.hid (show wd.cell? ⟨n6, 0, none⟩ = some (.int .i64 f) ∧ wd.cell? ⟨n6, 1, none⟩ = some (.int .i64 b) ∧ wd.cell? ⟨n6, 2, none⟩ = some (.slice qo qn qc) ∧ wd.cell? ⟨n6, 3, none⟩ = some (.int .i64 lk) ∧ wd.cell? ⟨n6, 4, none⟩ = some (.slice o2 M.length c2) by simp [o])
            obtain ⟨q0, q1, q2, q3, q4⟩ := HC.out
            have HS := Lib.hid hS
            have HH := Lib.hid hH
            have HP := Lib.hid hP
            have HM := Lib.hid hM
            have HR := Lib.hid hR
            have HF := Lib.hid hF
            have o4 := (hF.own (n4, _) (List.mem_cons_of_mem _ (List.mem_cons_self ..))).1
            simp only [At, and_true, Nat.zero_add, Nat.reduceAdd] at o4
            have h64 : n6 ≠ n4 := by omega
            have hQ := Fb.start wd
            clear hS hH hP hM hR hF o
            go_region_held3 (fun w' => w'.cell? ⟨n6, 0, none⟩ = some (.int .i64 f) ∧ w'.cell? ⟨n6, 1, none⟩ = some (.int .i64 b) ∧ w'.cell? ⟨n6, 2, none⟩ = some (.slice qo qn qc) ∧ w'.cell? ⟨n6, 3, none⟩ = some (.int .i64 lk) ∧ w'.cell? ⟨n6, 4, none⟩ = some (.slice o2 M.length c2))
              (first | (with_reducible assumption) | (refine ⟨?_, ?_, ?_, ?_, ?_⟩; ((try simp only [World.cell?_drew]); (first | (with_reducible exact HC.out.1) | (rw [kept5e (r := n4) (by exact h64)]; (try simp only [World.cell?_drew]); with_reducible exact HC.out.1))); ((try simp only [World.cell?_drew]); (first | (with_reducible exact HC.out.2.1) | (rw [kept5e (r := n4) (by exact h64)]; (try simp only [World.cell?_drew]); with_reducible exact HC.out.2.1))); ((try simp only [World.cell?_drew]); (first | (with_reducible exact HC.out.2.2.1) | (rw [kept5e (r := n4) (by exact h64)]; (try simp only [World.cell?_drew]); with_reducible exact HC.out.2.2.1))); ((try simp only [World.cell?_drew]); (first | (with_reducible exact HC.out.2.2.2.1) | (rw [kept5e (r := n4) (by exact h64)]; (try simp only [World.cell?_drew]); with_reducible exact HC.out.2.2.2.1))); ((try simp only [World.cell?_drew]); (first | (with_reducible exact HC.out.2.2.2.2) | (rw [kept5e (r := n4) (by exact h64)]; (try simp only [World.cell?_drew]); with_reducible exact HC.out.2.2.2.2)))))
              (fail)
            all_goals
              obtain ⟨wz, hwz, e1, e2⟩ := put5 HF.out.swap (by simp; omega) (.int .i64 f) (.int .i64 b) (.slice qo qn qc) (.int .i64 lk) (.slice o2 M.length c2)
              have hS5 := SOwn.set5 HS.out (n := n4) (by omega) (.int .i64 f) (.int .i64 b) (.slice qo qn qc) (.int .i64 lk) (.slice o2 M.length c2)
              have hH5 := Own.set5 HH.out (n := n4) (by omega) (.int .i64 f) (.int .i64 b) (.slice qo qn qc) (.int .i64 lk) (.slice o2 M.length c2)
              have hR5 := Rd.set5 HR.out (n := n4) (by omega) (.int .i64 f) (.int .i64 b) (.slice qo qn qc) (.int .i64 lk) (.slice o2 M.length c2)
              have hP5 := e2 _ _ _ (by simp) HP.out
              have hM5 := e2 _ _ _ (by simp) HM.out
              rw [← hwz] at hS5 hH5 hR5
              rw [← hwz]
              rename_i hHd; clear hHd
              clear hwz e2 o4 q0 q1 q2 q3 q4 hQ HS HH HP HM HR HF HC
              have hF := e1.drew
              have hK := e1.kp.drew
              have o := hF.own; simp only [World.size_alloc, World.size_drew, World.size_setCell, List.mem_cons, List.not_mem_nil, or_false, forall_eq_or_imp, forall_eq, At, and_true, Nat.zero_add, Nat.reduceAdd, List.set_cons_zero, List.set_cons_succ] at o
              clear e1 hF
              go_wp2_with fail
              refine bodyPost_ret (v := .tuple #[.slice vo K.length vc, .slice uo L'.length uc, .agg #[.int .i64 f, .int .i64 b, .slice qo qn qc, .int .i64 lk, .slice o2 M.length c2], .int .i64 t']) (by simp [results, Tryd.results31, go_sem, o]) rfl ?_
              exact ⟨_, _, _, _, K, L', f, b, lk, t', P', M, rfl, Own.base hH5.drew (by omega), hS5.drew.base (by omega), ⟨hP5.drew.it, hP5.drew.lo, fun p hp => by simp at hp⟩, ⟨hM5.drew.it, hM5.drew.lo, fun p hp => by simp at hp⟩, hP4', hM9, hK5, hL8'.out, hLs'.out, ht0', ht6', HFB.out, ⟨k'', by omega, hR5.drew⟩, hK⟩
end Go.Proofs.YtiocomefkckbfaaDoor
set_option linter.unusedSimpArgs false
set_option linter.unusedVariables false
namespace Go.Proofs.YtiocomefkckbfaaDoor
open Go.RowKit

theorem Rz.with {w : World} {r n : Nat} {v : Value} {L : List Int} (h : Rz w r [] v L) (hn : n ≤ r) : Rz w r [n] v L := ⟨h.it, h.lo, fun p hp e => by
  rw [List.mem_singleton] at hp; subst hp; have := (h.lo _ e).1; omega⟩
set_option maxHeartbeats 4000000 in
theorem drawSealLacks_any (v : Value) (w : World) (h : Given w v) :
    Calls Tryd.prog 22 #[v] w fun e w' => ∃ (hv lv pv mv : Value) (H : List HoldD) (L : List Sl) (f b lk ti : Int) (P M : List Int), e = .returned (.tuple #[hv, lv, .agg #[.int .i64 f, .int .i64 b, pv, .int .i64 lk, mv], .int .i64 ti]) ∧ Rows w' hv 3 HoldD.enc H ∧ Sls w' lv L ∧ Ints w' pv P ∧ Ints w' mv M ∧ L4 P ∧ M.length ≤ 10 ∧ H.length ≤ 5 ∧ L.length ≤ 8 ∧ (∀ s ∈ L, SmS s) ∧ 0 ≤ ti ∧ ti ≤ 6 ∧ Below w.heap.size w w' := by
  have hF := (Fr.start (w.heap.size + 1) w).alloc' [.int .i64 0, .int .i64 0, .slice none 0 0, .int .i64 0, .slice none 0 0] 35 (by omega)
  have hG := h.alloc (.cells #[.int .i64 0, .int .i64 0, .slice none 0 0, .int .i64 0, .slice none 0 0] 35)
  obtain ⟨n2, hn2⟩ : ∃ n, w.heap.size = n := ⟨_, rfl⟩
  go_enter Tryd.func22, Tryd.ntmps22
  go_wp2_with fail
  refine (open_any v _ hG).mono ?_; rintro e w1 ⟨rfl, hR, hb1⟩
  simp only [World.size_alloc, hn2] at hR hF
  have hr1 := hR.lt
  replace hF := hF.below hb1
  clear hG hb1
  go_wp2_with fail
  refine (l92Sealed_any _ 0 _ hR (by omega)).mono ?_; rintro e w2 ⟨hv, lv, pv, mv, H, L, f, b, lk, ti, P, M, rfl, hH, hS, hP, hM, hP4, hM9, hH5, hL8, hLs, ht0, ht6, -, -, hK2⟩
  replace hF := hF.call hK2
  replace hP := hP.with (n := n2) (by omega)
  replace hM := hM.with (n := n2) (by omega)
  obtain ⟨o1, c1, rfl, -⟩ := hP.it.1.ex
  obtain ⟨o2, c2, rfl, -⟩ := hM.it.1.ex
  obtain ⟨uo, uc, rfl⟩ := hS.sl
  have HLs := Lib.hid hLs
  obtain ⟨vo, vc, rfl⟩ := hH.sl
  clear hLs hK2 hR
  have o := hF.own; simp only [World.size_alloc, World.size_drew, World.size_setCell, List.mem_cons, List.not_mem_nil, or_false, forall_eq_or_imp, forall_eq, At, and_true, Nat.zero_add, Nat.reduceAdd, List.set_cons_zero, List.set_cons_succ] at o
  go_wp2_with fail
  obtain ⟨wz, hwz, e1, e2⟩ := put5 hF (by simp) (.int .i64 f) (.int .i64 b) (.slice o1 P.length c1) (.int .i64 lk) (.slice o2 M.length c2)
  have hS5 := SOwn.set5 hS (n := n2) (by omega) (.int .i64 f) (.int .i64 b) (.slice o1 P.length c1) (.int .i64 lk) (.slice o2 M.length c2)
  have hH5' := Own.set5 hH (n := n2) (by omega) (.int .i64 f) (.int .i64 b) (.slice o1 P.length c1) (.int .i64 lk) (.slice o2 M.length c2)
  rw [← hwz] at hS5 hH5'
  rw [← hwz]
  have hP5 := e2 _ _ _ (by simp) hP
  have hM5 := e2 _ _ _ (by simp) hM
  clear hwz o hF e2 hP hM hS hH
  have hF := e1
  have o := hF.own; simp only [World.size_alloc, World.size_drew, World.size_setCell, List.mem_cons, List.not_mem_nil, or_false, forall_eq_or_imp, forall_eq, At, and_true, Nat.zero_add, Nat.reduceAdd, List.set_cons_zero, List.set_cons_succ] at o
  refine bodyPost_ret (v := .tuple #[.slice vo H.length vc, .slice uo L.length uc, .agg #[.int .i64 f, .int .i64 b, .slice o1 P.length c1, .int .i64 lk, .slice o2 M.length c2], .int .i64 ti]) ?_ rfl ?_
  · simp [results, Tryd.results22, go_sem, o]
  · exact ⟨_, _, _, _, H, L, f, b, lk, ti, P, M, rfl, Own.rows hH5' (fun _ => rfl), hS5.sls, hP5.it.1, hM5.it.1, hP4, hM9, hH5, hL8, HLs.out, ht0, ht6, e1.kp.below (by omega) (Nat.le_refl _)⟩
set_option maxHeartbeats 4000000 in
theorem drawSealOk_any (v : Value) (w : World) (h : Given w v) :
    Calls Tryd.prog 26 #[v] w fun e w' => ∃ (hv lv pv mv : Value) (H : List HoldD) (L : List Sl) (f b lk ti : Int) (P M : List Int), e = .returned (.tuple #[hv, lv, .agg #[.int .i64 f, .int .i64 b, pv, .int .i64 lk, mv], .int .i64 ti]) ∧ Rows w' hv 3 HoldD.enc H ∧ Sls w' lv L ∧ Ints w' pv P ∧ Ints w' mv M ∧ L4 P ∧ M.length ≤ 10 ∧ H.length ≤ 5 ∧ L.length ≤ 8 ∧ (∀ s ∈ L, SmS s) ∧ 0 ≤ ti ∧ ti ≤ 6 ∧ Below w.heap.size w w' := by
  have hF := (Fr.start (w.heap.size + 1) w).alloc' [.int .i64 0, .int .i64 0, .slice none 0 0, .int .i64 0, .slice none 0 0] 35 (by omega)
  have hG := h.alloc (.cells #[.int .i64 0, .int .i64 0, .slice none 0 0, .int .i64 0, .slice none 0 0] 35)
  obtain ⟨n2, hn2⟩ : ∃ n, w.heap.size = n := ⟨_, rfl⟩
  go_enter Tryd.func26, Tryd.ntmps26
  go_wp2_with fail
  refine (open_any v _ hG).mono ?_; rintro e w1 ⟨rfl, hR, hb1⟩
  simp only [World.size_alloc, hn2] at hR hF
  have hr1 := hR.lt
  replace hF := hF.below hb1
  clear hG hb1
  go_wp2_with fail
  refine (l92Sealed_any _ 0 _ hR (by omega)).mono ?_; rintro e w2 ⟨hv, lv, pv, mv, H, L, f, b, lk, ti, P, M, rfl, hH, hS, hP, hM, hP4, hM9, hH5, hL8, hLs, ht0, ht6, -, -, hK2⟩
  replace hF := hF.call hK2
  replace hP := hP.with (n := n2) (by omega)
  replace hM := hM.with (n := n2) (by omega)
  obtain ⟨o1, c1, rfl, -⟩ := hP.it.1.ex
  obtain ⟨o2, c2, rfl, -⟩ := hM.it.1.ex
  obtain ⟨uo, uc, rfl⟩ := hS.sl
  have HLs := Lib.hid hLs
  obtain ⟨vo, vc, rfl⟩ := hH.sl
  clear hLs hK2 hR
  have o := hF.own; simp only [World.size_alloc, World.size_drew, World.size_setCell, List.mem_cons, List.not_mem_nil, or_false, forall_eq_or_imp, forall_eq, At, and_true, Nat.zero_add, Nat.reduceAdd, List.set_cons_zero, List.set_cons_succ] at o
  go_wp2_with fail
  obtain ⟨wz, hwz, e1, e2⟩ := put5 hF (by simp) (.int .i64 f) (.int .i64 b) (.slice o1 P.length c1) (.int .i64 lk) (.slice o2 M.length c2)
  have hS5 := SOwn.set5 hS (n := n2) (by omega) (.int .i64 f) (.int .i64 b) (.slice o1 P.length c1) (.int .i64 lk) (.slice o2 M.length c2)
  have hH5' := Own.set5 hH (n := n2) (by omega) (.int .i64 f) (.int .i64 b) (.slice o1 P.length c1) (.int .i64 lk) (.slice o2 M.length c2)
  rw [← hwz] at hS5 hH5'
  rw [← hwz]
  have hP5 := e2 _ _ _ (by simp) hP
  have hM5 := e2 _ _ _ (by simp) hM
  clear hwz o hF e2 hP hM hS hH
  have hF := e1
  have o := hF.own; simp only [World.size_alloc, World.size_drew, World.size_setCell, List.mem_cons, List.not_mem_nil, or_false, forall_eq_or_imp, forall_eq, At, and_true, Nat.zero_add, Nat.reduceAdd, List.set_cons_zero, List.set_cons_succ] at o
  refine bodyPost_ret (v := .tuple #[.slice vo H.length vc, .slice uo L.length uc, .agg #[.int .i64 f, .int .i64 b, .slice o1 P.length c1, .int .i64 lk, .slice o2 M.length c2], .int .i64 ti]) ?_ rfl ?_
  · simp [results, Tryd.results26, go_sem, o]
  · exact ⟨_, _, _, _, H, L, f, b, lk, ti, P, M, rfl, Own.rows hH5' (fun _ => rfl), hS5.sls, hP5.it.1, hM5.it.1, hP4, hM9, hH5, hL8, HLs.out, ht0, ht6, e1.kp.below (by omega) (Nat.le_refl _)⟩
end Go.Proofs.YtiocomefkckbfaaDoor
