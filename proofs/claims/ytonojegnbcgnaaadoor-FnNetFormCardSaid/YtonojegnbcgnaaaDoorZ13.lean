/- Nets: a net that is read; NetOk of the program. FnNone: the walk. cmp.Compare, cmp.Or. -/
import Derived.Test.YtonojegnbcgnaaaDoorZ12
import Derived.Deep.RegionHeld3
import Derived.Test.YtonojegnbcgnaaaDoorZ3
set_option linter.unusedSimpArgs false
set_option linter.unusedVariables false
namespace Go.Proofs.YtonojegnbcgnaaaDoor
open Go.RowKit Go.Maps Go.WideMaps

theorem wayP_house {M : List (List Int)} {home h : Int} {P : List Int} (hM : RelsP M) (hh : Bts home 1 M.length) (e : h = home) : WayP M home P h ↔ P = [home] := by subst e; exact wayP_home hM hh
set_option maxHeartbeats 4000000 in
theorem readNet_any (v u : Value) (M W : List (List Int)) (home : Int) (a : Addr) (w : World) (hM : Mat w v M) (hW : GLs shI w u W) (hE : EPath w a) (hl : ∀ P ∈ W, P.length ≤ 3000000) :
    Calls Tryd.prog 71 #[v, .int .i64 home, u] w fun e w' => ∃ pu, e = .returned (.tuple #[pu, .bool (decide (NetP M home W))]) ∧ Below w.heap.size w w' := by
  obtain ⟨bo, m, cap2, rfl, hm, hmc, hcap2⟩ := GLs.sl hW
  go_enter Tryd.func71, Tryd.ntmps71
  by_cases k1 : RelsP M
  · have HC := Lib.hid (readRels_yes v M w hM k1)
    have hM5 := k1.2.2
    obtain ⟨n, hn⟩ : ∃ n, Hid (M.length = n) := ⟨_, rfl⟩
    rw [hn.out] at HC hM5
    go_wp2_with fail
    refine HC.out.mono ?_; rintro e w1 ⟨b, rfl, hK, hb1⟩
    have hF := ((Fb.start w).below hb1).alloc [.int .i64 n, .map (some b)] 87
    replace hK := hK.alloc (.cells #[.int .i64 n, .map (some b)] 87)
    obtain ⟨n8, hn8⟩ : ∃ n, w1.heap.size = n := ⟨_, rfl⟩
    rw [hn8] at hF
    have o := hF.own; simp only [World.size_alloc, World.size_drew, World.size_setCell, List.mem_cons, List.not_mem_nil, or_false, forall_eq_or_imp, forall_eq, At, and_true, Nat.zero_add, Nat.reduceAdd, List.set_cons_zero, List.set_cons_succ] at o
    go_wp2_with fail
    refine (rhas_any (n : Int) home (.map (some b)) _ rfl).mono ?_; rintro e w2 ⟨rfl, hb2⟩
    replace hF := hF.below hb2
    replace hK := hK.below hb2
    clear hb2 o hb1 HC hn8
    by_cases k2 : Bts home 1 n
    · have d2 : decide (Bts home 1 (n : Int)) = true := by simp [k2]
      have K2 : Hid (Bts home 1 M.length) := by show Bts _ _ _; rw [hn.out]; exact k2
      clear k2
      by_cases k3 : m = n
      · subst k3
        have d3 : ((m : Int) != (m : Int)) = false := by simp
        have H0 := Lib.hid (show RelsP M ∧ Bts home 1 M.length ∧ W.length = M.length from ⟨k1, K2.out, hm.out.trans hn.out.symm⟩)
        have HW0 := Lib.hid hW
        have HL := Lib.hid hl
        have HE := Lib.hid hE
        clear k1 hM hW hl hE
        have o := hF.own; simp only [World.size_alloc, World.size_drew, World.size_setCell, List.mem_cons, List.not_mem_nil, or_false, forall_eq_or_imp, forall_eq, At, and_true, Nat.zero_add, Nat.reduceAdd, List.set_cons_zero, List.set_cons_succ] at o
        go_upto_region 4 with (fail)
        obtain ⟨wb, hwb⟩ : ∃ wb : World, wb = w2 := ⟨_, rfl⟩
        rw [← hwb] at hF hK o ⊢
        clear hwb
        have HC := Lib.hid (show wb.cell? ⟨n8, 0, none⟩ = some (.int .i64 m) ∧ wb.cell? ⟨n8, 1, none⟩ = some (.map (some b)) by simp [o])
        have HF := Lib.hid hF.kp
        have HW := Lib.hid (HW0.out.below hF.kp)
        have HEb := Lib.hid (HE.out.below hF.kp)
        have HK := Lib.hid hK
        have hQ := Fb.start wb
        clear hF hK o HE HW0
        obtain ⟨q0, q1⟩ := HC.out
        go_cut [10] (fun s10 wx => ∃ (q : Nat), s10 = .pointer (some ⟨q, 0, none⟩) ∧ Hid (wx.cell? ⟨q, 0, none⟩ = some (.int .i64 m) ∧ wx.cell? ⟨q, 1, none⟩ = some (.map (some b)) ∧ wx.cell? ⟨q, 2, none⟩ = some (.int .i64 home)) ∧ Fb wb wx [])
        case first =>
          go_region_held3 (fun w' => w'.cell? ⟨n8, 0, none⟩ = some (.int .i64 m) ∧ w'.cell? ⟨n8, 1, none⟩ = some (.map (some b)))
            (first | (with_reducible assumption) | (refine ⟨?_, ?_⟩; exact Fb.old (w := wb) (L := []) (by repeat (first | (with_reducible assumption) | (with_reducible apply Fb.drew) | (with_reducible apply Fb.other) | (with_reducible apply Fb.setAway) | (intro q hq; cases hq) | (have := hQ.kp.size; (try simp only [World.size_alloc, World.size_drew, World.size_setCell]); (try dsimp only); omega))) HC.out.1; exact Fb.old (w := wb) (L := []) (by repeat (first | (with_reducible assumption) | (with_reducible apply Fb.drew) | (with_reducible apply Fb.other) | (with_reducible apply Fb.setAway) | (intro q hq; cases hq) | (have := hQ.kp.size; (try simp only [World.size_alloc, World.size_drew, World.size_setCell]); (try dsimp only); omega))) HC.out.2))
            (first
              | (go_at_call 101; go_must (refine (copyWays_any _ W _ (HW.out.below (Fb.kp (W := wb) (L := []) (by repeat (first | (with_reducible assumption) | (with_reducible apply Fb.drew) | (with_reducible apply Fb.other) | (with_reducible apply Fb.setAway) | (intro q hq; cases hq) | (have := hQ.kp.size; (try simp only [World.size_alloc, World.size_drew, World.size_setCell]); (try dsimp only); omega))))) (by have := hm.out; omega) HL.out).mono ?_); rintro e wx ⟨ca, cm, cc, rfl, hbx⟩; replace hQ := Fb.below (W := wb) (L := []) (by repeat (first | (with_reducible assumption) | (with_reducible apply Fb.drew) | (with_reducible apply Fb.other) | (with_reducible apply Fb.setAway) | (intro q hq; cases hq) | (have := hQ.kp.size; (try simp only [World.size_alloc, World.size_drew, World.size_setCell]); (try dsimp only); omega))) hbx; clear hbx))
          all_goals
            rename_i hHd; clear hHd
            go_wp2_with fail
            go_meet
            case rel => exact ⟨_, rfl, ⟨by simp, by simp, by simp⟩, (by repeat (first | (with_reducible assumption) | (with_reducible apply Fb.drew) | (with_reducible apply Fb.other) | (with_reducible apply Fb.setAway) | (intro q hq; cases hq) | (have := hQ.kp.size; (try simp only [World.size_alloc, World.size_drew, World.size_setCell]); (try dsimp only); omega)))⟩
        case rest =>
          obtain ⟨q, rfl, hcq, hFb⟩ := hcut
          clear q0 q1 hQ
          obtain ⟨we, hwe⟩ : ∃ we : World, we = wc := ⟨_, rfl⟩
          rw [← hwe] at hFb hcq ⊢
          clear hwe
          have HKe := Lib.hid hFb.kp
          have HWe := Lib.hid (HW.out.below hFb.kp)
          have HEe := Lib.hid (HEb.out.below hFb.kp)
          have HKn := Lib.hid (HK.out.below hFb.kp)
          have hQ := Fb.start we
          clear hFb
          go_wp2
          go_loopw [42] (fun i wr => ∃ k : Nat, k ≤ m ∧ i = .int .i64 k ∧ Hid (∀ j, j < k → WayP M home (W.getD j []) ((j : Int) + 1)) ∧ Fb we wr []) (fun i _ => m - (intOf i).toNat)
          case atStart => exact ⟨0, Nat.zero_le _, rfl, fun j hj => (by omega), hQ⟩
          case round =>
            clear hQ
            obtain ⟨k, hk, rfl, ht, hQ⟩ := hrel
            have hKK : Hid (∀ wz, Below wr.heap.size wr wz → Below w.heap.size w wz) := fun wz Kz => HF.out.trans ((HKe.out.trans ((hQ.kp.trans (Kz.mono hQ.kp.size)).mono HKe.out.size)).mono HF.out.size)
            by_cases hlt : k < m
            · obtain ⟨b1, p1, rfl⟩ := GLs.adr HWe.out (by omega)
              obtain ⟨P, hP⟩ := get_of hm.out hlt
              obtain ⟨a1, m1, c1, e1, i1, hm1, -, -⟩ := GLs.atI HWe.out hP
              have x1 := hQ.old e1
              have hp := Rows.below i1 hQ.kp
              have HP := Lib.hid hP
              clear e1 i1 hP
              by_cases hh : (k : Int) + 1 = home
              · have dh : (((k : Int) + 1) == home) = true := by simp [hh]
                have hpf : Ints (wr.alloc (.cells #[.int .i64 home] 3)) (.slice (some ⟨wr.heap.size, 0, none⟩) 1 1) [home] := (Own.lit 3 wr wr.heap.size 1 encI [home] (fun _ => rfl) (Nat.le_refl _) (by simp)).rows (fun _ => rfl)
                have cE := Lib.hid (EqualI_any _ _ P [home] _ (Rows.alloc hp (.cells #[.int .i64 home] 3)) hpf)
                have hF2 := hQ.other (.cells #[.int .i64 home] 3)
                have HH := Lib.hid (wayP_house (P := P) H0.out.1 H0.out.2.1 hh)
                clear hp hpf hh
                by_cases hq : P = [home]
                · have dq : decide (P = [home]) = true := decide_eq_true hq
                  have hA : Hid (∀ j, j < k + 1 → WayP M home (W.getD j []) ((j : Int) + 1)) := wayP_go ht.out HP.out (HH.out.2 hq)
                  rw [dq] at cE
                  clear hq dq
                  go_wp2_with fail
                  refine cE.out.mono ?_; rintro e w3 ⟨rfl, hb3⟩
                  replace hF2 := hF2.below hb3
                  clear hb3 cE x1
                  go_wp2
                  go_roundw
                  case rel => exact ⟨k + 1, by omega, by go_num, hA, hF2⟩
                  case measure => simp [intOf]; omega
                · have dq : decide (P = [home]) = false := decide_eq_false hq
                  have hr : Hid (decide (NetP M home W) = false) := netP_bad hm.out hlt HP.out (fun g => hq (HH.out.1 g))
                  rw [dq] at cE
                  clear hq dq
                  go_wp2_with fail
                  refine cE.out.mono ?_; rintro e w3 ⟨rfl, hb3⟩
                  replace hF2 := hF2.below hb3
                  clear hb3 cE x1
                  go_wp2
                  refine bodyPost_ret (v := .tuple #[.pointer none, .bool false]) ?_ rfl ?_
                  · simp [results, Tryd.results71, go_sem]
                  · exact ⟨_, by rw [hr.out], HF.out.trans ((HKe.out.trans (hF2.kp.mono HKe.out.size)).mono HF.out.size)⟩
              · have dh : (((k : Int) + 1) == home) = false := by simp [hh]
                have HH := Lib.hid (wayP_other (M := M) (P := P) hh)
                clear hh
                by_cases hm0 : m1 = 0
                · have hP0 : P = [] := List.length_eq_zero_iff.1 (hm1.out.trans hm0)
                  have hA : Hid (∀ j, j < k + 1 → WayP M home (W.getD j []) ((j : Int) + 1)) := wayP_go ht.out HP.out (HH.out.2 (Or.inl hP0))
                  have dm : decide (0 < (m1 : Int)) = false := decide_eq_false (by omega)
                  have dm' : decide (0 < m1) = false := decide_eq_false (by omega)
                  clear hm0 hP0 hp
                  go_wp2
                  go_roundw
                  case rel => exact ⟨k + 1, by omega, by go_num, hA, hQ⟩
                  case measure => simp [intOf]; omega
                · have dm : decide (0 < (m1 : Int)) = true := decide_eq_true (by omega)
                  have dm' : decide (0 < m1) = true := decide_eq_true (by omega)
                  have hne : P ≠ [] := by rintro rfl; have := hm1.out; simp at this; omega
                  have cL := leads_any q b 0 0 none (.slice a1 m1 c1) M home ((k : Int) + 1) P a wr H0.out.1 (HKn.out.below hQ.kp) (by rw [hn.out]; exact hQ.old hcq.out.1) (hQ.old hcq.out.2.1) (hQ.old hcq.out.2.2) hp (by rw [hm1.out]; omega) (HEe.out.below hQ.kp)
                  clear hm0 hp
                  by_cases hq : LeadsP M home P ((k : Int) + 1)
                  · rw [decide_eq_true hq] at cL
                    have CL := Lib.hid cL
                    have hA : Hid (∀ j, j < k + 1 → WayP M home (W.getD j []) ((j : Int) + 1)) := wayP_go ht.out HP.out (HH.out.2 (Or.inr ⟨hne, hq⟩))
                    clear hq cL hne
                    go_wp2_with fail
                    refine CL.out.mono ?_; rintro e w3 ⟨rfl, hb3⟩
                    replace hQ := hQ.below hb3
                    clear hb3 CL x1
                    go_wp2
                    go_roundw
                    case rel => exact ⟨k + 1, by omega, by go_num, hA, hQ⟩
                    case measure => simp [intOf]; omega
                  · rw [decide_eq_false hq] at cL
                    have CL := Lib.hid cL
                    have hr : Hid (decide (NetP M home W) = false) := netP_bad hm.out hlt HP.out (fun g => (HH.out.1 g).elim hne (fun z => hq z.2))
                    clear hq cL hne
                    go_wp2_with fail
                    refine CL.out.mono ?_; rintro e w3 ⟨rfl, hb3⟩
                    have hbz := hKK.out _ hb3
                    clear hb3 CL x1
                    go_wp2
                    refine bodyPost_ret (v := .tuple #[.pointer none, .bool false]) ?_ rfl ?_
                    · simp [results, Tryd.results71, go_sem]
                    · exact ⟨_, by rw [hr.out], hbz⟩
            · have hr : Hid (decide (NetP M home W) = true) := netP_all hm.out (fun i hi => ht.out i (by omega)) H0.out
              go_wp2
              refine bodyPost_ret (v := .tuple #[.pointer (some ⟨q, 0, none⟩), .bool true]) ?_ rfl ?_
              · simp [results, Tryd.results71, go_sem]
              · exact ⟨_, by rw [hr.out], hKK.out _ (Below.refl _ _)⟩
      · have d3 : ((m : Int) != (n : Int)) = true := by simp; omega
        have hr : Hid (decide (NetP M home W) = false) := decide_eq_false (fun g => k3 (by have := g.1.2.2; rw [hm.out, hn.out] at this; exact this))
        clear k3
        have o := hF.own; simp only [World.size_alloc, World.size_drew, World.size_setCell, List.mem_cons, List.not_mem_nil, or_false, forall_eq_or_imp, forall_eq, At, and_true, Nat.zero_add, Nat.reduceAdd, List.set_cons_zero, List.set_cons_succ] at o
        go_wp2
        refine bodyPost_ret (v := .tuple #[.pointer none, .bool false]) ?_ rfl ?_
        · simp [results, Tryd.results71, go_sem]
        · exact ⟨_, by rw [hr.out], hF.kp⟩
    · have d2 : decide (Bts home 1 (n : Int)) = false := by simp [k2]
      have hr : Hid (decide (NetP M home W) = false) := decide_eq_false (fun g => k2 (by have := g.1.2.1; rwa [hn.out] at this))
      clear k2
      go_wp2
      refine bodyPost_ret (v := .tuple #[.pointer none, .bool false]) ?_ rfl ?_
      · simp [results, Tryd.results71, go_sem]
      · exact ⟨_, by rw [hr.out], hF.kp⟩
  · have HC := Lib.hid (readRels_no v M w hM k1)
    have hr : Hid (decide (NetP M home W) = false) := decide_eq_false (fun g => k1 g.1.1)
    go_wp2_with fail
    refine HC.out.mono ?_; rintro e w1 ⟨rfl, hb1⟩
    have hF := ((Fb.start w).below hb1).alloc [.int .i64 0, .map none] 87
    go_wp2
    refine bodyPost_ret (v := .tuple #[.pointer none, .bool false]) ?_ rfl ?_
    · simp [results, Tryd.results71, go_sem]
    · exact ⟨_, by rw [hr.out], hF.kp⟩
theorem iNetOk_any (v u : Value) (M W : List (List Int)) (home : Int) (a : Addr) (w : World) (hM : Mat w v M) (hW : GLs shI w u W) (hE : EPath w a) (hl : ∀ P ∈ W, P.length ≤ 3000000) :
    Calls Tryd.prog 31 #[v, .int .i64 home, u] w fun e w' => e = .returned (.bool (decide (NetP M home W))) ∧ Below w.heap.size w w' := by
  go_enter Tryd.func31, Tryd.ntmps31
  go_wp2_with fail
  refine (readNet_any v u M W home a w hM hW hE hl).mono ?_; rintro e w1 ⟨pu, rfl, hb1⟩
  go_wp2
  go_ret
  exact ⟨rfl, hb1⟩
end Go.Proofs.YtonojegnbcgnaaaDoor
set_option linter.unusedSimpArgs false
set_option linter.unusedVariables false
namespace Go.Proofs.YtonojegnbcgnaaaDoor
open Go.RowKit Go.Maps Go.WideMaps

theorem matO_rows {E : TypeId} {w : World} {B n : Nat} {v : Value} {vs : List Value} (h : MatO E w B n v vs) (hv : vs.length = n) : ∃ M, Mat w v M ∧ M.length = n ∧ ∀ r ∈ M, r.length = n := by
  obtain ⟨M, h1, h3, h4⟩ := h.mat
  exact ⟨M, h1, h3.trans hv, fun r hr => (h4 r hr).1⟩
set_option maxHeartbeats 1000000 in
theorem drawNetNone_any (v0 : Value) (w : World) (h : Given w v0) :
    Calls Tryd.prog 27 #[v0] w fun e w' => ∃ (v : Value) (M : List (List Int)) (home : Int), e = .returned (.tuple #[v, .int .i64 home]) ∧ Mat w' v M ∧ M.length ≤ 5 ∧ 0 ≤ home ∧ home ≤ 6 ∧ Below w.heap.size w w' := by
  go_enter Tryd.func27, Tryd.ntmps27
  go_wp2_with fail
  refine (open_any v0 _ h).mono ?_; rintro e w1 ⟨rfl, hR, hb1⟩
  have hlt := hR.lt
  clear h
  go_wp2_with fail
  refine (l91Rels_any _ 0 _ hR (by omega)).mono ?_; rintro e w2 ⟨v, vs, n, rfl, hn2, hn5, hvs, hM, ⟨k2, hk2, hR2⟩, hK2⟩
  go_wp2_with fail
  refine (pick_any _ _ _ _ hR2 (by omega) (by omega) (by omega)).mono ?_; rintro e w3 ⟨v3, rfl, u3, l3, hR3, hK3⟩
  obtain ⟨M, h1, h3, h4⟩ := matO_rows (hM.kp hK3 hlt) hvs
  have hB : Below w.heap.size w w3 := hb1.trans ((hK2.trans hK3).below (Nat.le_refl _) hb1.size)
  clear hM hK2 hK3 hR hR2 hR3 hb1
  go_wp2
  refine bodyPost_ret (v := .tuple #[v, .int .i64 v3]) ?_ rfl ?_
  · simp [results, Tryd.results27, go_sem]
  · exact ⟨v, M, v3, rfl, h1, by omega, u3, by omega, hB⟩
theorem none_net {M : List (List Int)} {home : Int} (h1 : RelsP M) (h2 : Bts home 1 M.length) : NetP M home (noneL home M.length) := by
  refine ⟨⟨h1, h2, noneL_len _ _⟩, fun i hi => ?_⟩
  rw [noneL_len] at hi
  have e : (noneL home M.length).getD i [] = noneR home i := by simp [List.getD, noneL_at hi]
  rw [e]
  by_cases hh : (i : Int) + 1 = home
  · rw [hh]
    refine (wayP_home h1 h2).2 ?_
    unfold noneR; rw [if_pos hh]
  · refine (wayP_other hh).2 (Or.inl ?_)
    unfold noneR; rw [if_neg hh]
theorem noneR_mem {home : Int} {n : Nat} {P : List Int} (h : P ∈ noneL home n) : P.length ≤ 1 := by
  unfold noneL at h
  obtain ⟨i, _, rfl⟩ := List.mem_map.1 h
  unfold noneR; split <;> simp
theorem lyWays_same (v1 v2 : Value) (L : List (List Int)) (w : World) (h1 : GLs shI w v1 L) (h2 : GLs shI w v2 L) :
    Calls Tryd.prog 29 #[v1, v2] w fun e w' => e = .returned (.bool true) ∧ Below w.heap.size w w' := by
  have := lyWays_any v1 v2 L L w h1 h2
  rwa [decide_eq_true rfl] at this
set_option maxRecDepth 100000 in
set_option maxHeartbeats 4000000 in
theorem FnNone_walk (a0 : Option Addr) (n0 c0 : Nat) (a : Addr) (w : World) (h0 : Given w (.slice a0 n0 c0)) (hE : EPath w a) :
    Calls Tryd.prog 9 #[.slice a0 n0 c0] w fun e w' => e = .returned (.bool true) ∧ Below w.heap.size w w' := by
  by_cases hn0 : 1048576 < n0
  · have e0 : decide (1048576 < (n0 : Int)) = true := by simp; omega
    go_enter Tryd.func9, Tryd.ntmps9
    go_wp2
    go_ret
    exact ⟨rfl, Below.refl _ _⟩
  have e0 : decide (1048576 < (n0 : Int)) = false := by simp; omega
  have hF := Fb.start w
  go_enter Tryd.func9, Tryd.ntmps9
  go_wp2_with fail
  refine (drawNetNone_any _ _ h0).mono ?_; rintro e w1 ⟨v, M, home, rfl, hM, hM5, hh0, hh6, hb1⟩
  clear h0
  replace hF := hF.below hb1
  replace hE := hE.below hb1
  clear hb1
  go_wp2_with fail
  refine (iNetNone_any v M home _ hM).mono ?_; rintro e w2 ⟨u, rfl, hO, hb2⟩
  replace hF := hF.below hb2
  replace hE := hE.below hb2
  replace hM := hM.below hb2
  have hW := hO.gls.wide
  clear hb2 hO
  go_wp2_with fail
  refine (sNetNone_any v M home _ hM).mono ?_; rintro e w3 ⟨u2, rfl, hO2, hb3⟩
  replace hF := hF.below hb3
  replace hE := hE.below hb3
  replace hM := hM.below hb3
  replace hW := hW.below hb3
  have hW2 := hO2.gls
  clear hb3 hO2
  go_wp2_with fail
  refine (lyWays_same u u2 _ _ hW hW2).mono ?_; rintro e w4 ⟨rfl, hb4⟩
  replace hF := hF.below hb4
  replace hE := hE.below hb4
  replace hM := hM.below hb4
  replace hW := hW.below hb4
  clear hb4 hW2
  obtain ⟨ao, n, cap, rfl, hn, hnc, hcap⟩ := GLs.sl hW
  by_cases hc : RelsP M ∧ Bts home 1 M.length
  · have hq : noneW M home = noneL home M.length := noneW_yes hc.1 hc.2
    rw [hq] at hW hn
    have hnl : M.length = n := by rw [← hn.out, noneL_len]
    have hB := hc.2
    have HC := Lib.hid hc
    have H1 := hc.1.2.1
    unfold Bts at hB
    obtain ⟨kh, hkh⟩ : ∃ kh : Nat, home = (kh : Int) + 1 := ⟨(home - 1).toNat, by omega⟩
    have hkn : kh < n := by omega
    have hn0 : 0 < n := by omega
    obtain ⟨b1, p1, rfl⟩ := GLs.adr hW hn0
    have dn : ((n : Int) == 0) = false := by rw [beq_eq_false_iff_ne]; omega
    have HM := Lib.hid hM
    have HW := Lib.hid hW
    have HE := Lib.hid hE
    have HF := Lib.hid hF.kp
    have HNL := Lib.hid hnl
    have HKH := Lib.hid hkh
    have hQ := Fb.start w4
    have hn5 : n ≤ 5 := by omega
    clear hM hW hE hF hc hq hnl hB hM5 hkh
    go_wp2
    go_loopw [6] (fun i wr => ∃ k : Nat, k ≤ n ∧ i = .int .i64 ((k : Int) + 1) ∧ Fb w4 wr []) (fun i _ => n + 1 - (intOf i).toNat)
    case atStart => exact ⟨0, Nat.zero_le _, rfl, hQ⟩
    case round =>
      clear hQ
      obtain ⟨k, hk, rfl, hQ⟩ := hrel
      by_cases hlt : k < n
      · have hle : (k : Int) + 1 ≤ (n : Int) := by omega
        obtain ⟨a1, m1, c1, e1, i1, hm1, -, -⟩ := GLs.atI HW.out (noneL_at (home := home) (show k < M.length by have := HNL.out; omega))
        have x1 := hQ.old e1
        have q1 : IntKind.i64.wrap ((k : Int) + 1 - 1) = (k : Int) := by rw [show (k : Int) + 1 - 1 = (k : Int) by omega]; exact IntWalk.i64_in _ (by omega)
        clear e1 i1
        by_cases hh : (k : Int) + 1 = home
        · have dh : (((k : Int) + 1) == home) = true := by simp [hh]
          have hm : m1 = 1 := by have := hm1.out; unfold noneR at this; rw [if_pos hh] at this; simpa using this.symm
          subst hm
          clear hh
          go_wp2
          go_roundw
          case rel => exact ⟨k + 1, by omega, by go_num, hQ⟩
          case measure => simp [intOf]; omega
        · have dh : (((k : Int) + 1) == home) = false := by simp [hh]
          have hm : m1 = 0 := by have := hm1.out; unfold noneR at this; rw [if_neg hh] at this; simpa using this.symm
          subst hm
          clear hh
          go_wp2
          go_roundw
          case rel => exact ⟨k + 1, by omega, by go_num, hQ⟩
          case measure => simp [intOf]; omega
      · have hkn2 : k = n := by omega
        subst hkn2
        have hle : ¬ ((k : Int) + 1 ≤ (k : Int)) := by omega
        have cN := iNetOk_any v (.slice (some ⟨b1, p1, none⟩) k cap) M (noneL home M.length) home a wr (HM.out.below hQ.kp) (HW.out.below hQ.kp) (HE.out.below hQ.kp) (fun P hP => by have := noneR_mem hP; omega)
        rw [decide_eq_true (none_net HC.out.1 HC.out.2)] at cN
        have CN := Lib.hid cN
        clear cN
        go_wp2_with fail
        refine CN.out.mono ?_; rintro e w5 ⟨rfl, hb5⟩
        replace hQ := hQ.below hb5
        obtain ⟨a1, m1, c1, e1, i1, -, -, -⟩ := GLs.atI HW.out (noneL_at (home := home) (show kh < M.length by have := HNL.out; omega))
        have hnr : noneR home kh = [home] := if_pos HKH.out.symm
        rw [hnr] at i1
        have x1 := hQ.old e1
        have hp := Rows.below i1 hQ.kp
        have q1 : (home - 1).toNat = kh := by have := HKH.out; omega
        have q2 : IntKind.i64.wrap (home - 1) = home - 1 := IntWalk.i64_in _ (by omega)
        have q3 : 1 ≤ home := by have := HKH.out; omega
        have q4 : home - 1 < (k : Int) := by have := HKH.out; omega
        have q5 : 0 ≤ home - 1 := by omega
        have hpf : Ints (w5.alloc (.cells #[.int .i64 home] 3)) (.slice (some ⟨w5.heap.size, 0, none⟩) 1 1) [home] := (Own.lit 3 w5 w5.heap.size 1 encI [home] (fun _ => rfl) (Nat.le_refl _) (by simp)).rows (fun _ => rfl)
        have cL := lyInts_any _ _ [home] [home] _ (Rows.alloc hp (.cells #[.int .i64 home] 3)) hpf
        rw [decide_eq_true rfl] at cL
        have CL := Lib.hid cL
        have hF2 := hQ.other (.cells #[.int .i64 home] 3)
        clear e1 i1 hb5 CN hp hpf cL
        go_wp2_with fail
        refine CL.out.mono ?_; rintro e w6 ⟨rfl, hb6⟩
        replace hF2 := hF2.below hb6
        clear hb6 CL
        go_wp2
        go_ret
        exact ⟨rfl, HF.out.trans (hF2.kp.mono HF.out.size)⟩
  · have hq : noneW M home = [] := noneW_no hc
    rw [hq] at hW hn
    have hn0 : n = 0 := by have := hn.out; simpa using this.symm
    subst hn0
    clear hc
    go_wp2_with fail
    refine (sNetNone_any v M home _ hM).mono ?_; rintro e w5 ⟨u3, rfl, hO3, hb5⟩
    replace hF := hF.below hb5
    replace hW := hW.below hb5
    rw [hq] at hO3
    clear hb5
    go_wp2_with fail
    refine (lyWays_same _ u3 _ _ hW hO3.gls).mono ?_; rintro e w6 ⟨rfl, hb6⟩
    replace hF := hF.below hb6
    clear hb6
    go_wp2
    go_ret
    exact ⟨rfl, hF.kp⟩
end Go.Proofs.YtonojegnbcgnaaaDoor
set_option linter.unusedSimpArgs false
set_option linter.unusedVariables false
namespace Go.Proofs.YtonojegnbcgnaaaDoor
open Go.RowKit

/-- Of two numbers: which is less. -/
def icmp (a b : Int) : Int := if a < b then -1 else if b < a then 1 else 0
theorem icmp_bd (a b : Int) : -1 ≤ icmp a b ∧ icmp a b ≤ 1 := by unfold icmp; split <;> (try split) <;> omega
theorem isNaN_any (a : Int) (w : World) : Calls Tryd.prog 88 #[.int .i64 a] w fun e w' => e = .returned (.bool false) ∧ w = w' := by
  go_enter Tryd.func88, Tryd.ntmps88
  go_wp2
  go_ret
  exact ⟨by simp, rfl⟩
theorem compare_any (a b : Int) (w : World) : Calls Tryd.prog 52 #[.int .i64 a, .int .i64 b] w fun e w' => e = .returned (.int .i64 (icmp a b)) ∧ w = w' := by
  rcases Int.lt_trichotomy a b with h | rfl | h
  · have e : icmp a b = -1 := by simp [icmp, h]
    rw [e]; clear e
    go_enter Tryd.func52, Tryd.ntmps52
    go_wp2_with (go_at_call 88; refine (isNaN_any _ _).mono ?_; rintro e w' ⟨rfl, rfl⟩)
    go_ret
    exact ⟨rfl, rfl⟩
  · have e : icmp a a = 0 := by simp [icmp]
    rw [e]; clear e
    go_enter Tryd.func52, Tryd.ntmps52
    go_wp2_with (go_at_call 88; refine (isNaN_any _ _).mono ?_; rintro e w' ⟨rfl, rfl⟩)
    go_ret
    exact ⟨rfl, rfl⟩
  · have e : icmp a b = 1 := by unfold icmp; rw [if_neg (by omega), if_pos h]
    have h2 : ¬ a < b := by omega
    rw [e]; clear e
    go_enter Tryd.func52, Tryd.ntmps52
    go_wp2_with (go_at_call 88; refine (isNaN_any _ _).mono ?_; rintro e w' ⟨rfl, rfl⟩)
    go_ret
    exact ⟨rfl, rfl⟩
/-- The first that is not nought. -/
def orI (zs : List Int) : Int := (zs.find? (· != 0)).getD 0
theorem orI_at (zs : List Int) : ∀ k, (∀ i, i < k → zs.getD i 0 = 0) → (k < zs.length → zs.getD k 0 ≠ 0) → orI zs = zs.getD k 0 := by
  induction zs with
  | nil => intro k _ _; simp [orI]
  | cons z zs ih =>
    intro k h0 h1
    cases k with
    | zero => have := h1 (by simp); simp at this; simp [orI, List.find?_cons, this]
    | succ k =>
      have e : z = 0 := by simpa using h0 0 (by omega)
      have := ih k (fun i hi => by simpa using h0 (i + 1) (by omega)) (fun hk => by simpa using h1 (by simpa using hk))
      simpa [orI, List.find?_cons, e] using this
theorem orI_nil : orI [] = 0 := rfl
theorem orI_cons (z : Int) (zs : List Int) : orI (z :: zs) = if z = 0 then orI zs else z := by
  by_cases h : z = 0
  · simp [orI, List.find?_cons, h]
  · have : (z != 0) = true := by simpa using h
    simp [orI, List.find?_cons, this, h]
theorem or_any (b off cap : Nat) (zs : List Int) (w : World) (hc : ∀ i : Nat, i < zs.length → w.cell? ⟨b, off + i, none⟩ = some (.int .i64 (zs.getD i 0))) (hn : zs.length ≤ 1000000) :
    Calls Tryd.prog 51 #[.slice (some ⟨b, off, none⟩) zs.length cap] w fun e w' => e = .returned (.int .i64 (orI zs)) ∧ w = w' := by
  have hm := Lib.hid (orI_at zs)
  generalize hN : zs.length = N at *
  have HN := Lib.hid hN; clear hN
  go_enter Tryd.func51, Tryd.ntmps51
  go_wp2
  go_loop [8, 5] (fun i _ => ∃ k : Nat, k ≤ N ∧ i = .int .i64 k ∧ ∀ j, j < k → zs.getD j 0 = 0) (fun i _ => N - (intOf i).toNat)
  case atStart => exact ⟨0, Nat.zero_le _, rfl, fun j hj => by omega⟩
  case round =>
    obtain ⟨k, hk, rfl, hz⟩ := hrel
    have hz' := Lib.hid hz; clear hz
    have hcell : k < N → w.cell? ⟨b, off + k, none⟩ = some (.int .i64 (zs.getD k 0)) := hc k
    clear hc
    have HD : Hid (∃ z, z = zs.getD k 0) := ⟨_, rfl⟩
    obtain ⟨z, hz⟩ := HD.out
    rw [← hz] at hcell
    have HZ := Lib.hid hz; clear hz HD
    go_wp2
    · go_ret
      have h1 : (z != 0) = true := by assumption
      have h2 : k < N := by assumption
      refine ⟨ret_int ?_, rfl⟩
      rw [hm.out k hz'.out (fun _ => by rw [← HZ.out]; simpa using h1)]; exact HZ.out
    · have h1 : (z != 0) = false := by assumption
      have h2 : k < N := by assumption
      go_round
      case rel =>
        refine ⟨k + 1, by omega, by go_num, fun j hj => ?_⟩
        by_cases e : j = k
        · rw [e, ← HZ.out]; simpa using h1
        · exact hz'.out j (by omega)
      case measure => simp [intOf]; omega
    · go_ret
      refine ⟨ret_int ?_, rfl⟩
      have h2 : ¬ k < N := by assumption
      rw [hm.out k hz'.out (fun h => by omega)]
      have := HN.out
      simp [List.getD]; rw [List.getElem?_eq_none (by omega)]; rfl
end Go.Proofs.YtonojegnbcgnaaaDoor
