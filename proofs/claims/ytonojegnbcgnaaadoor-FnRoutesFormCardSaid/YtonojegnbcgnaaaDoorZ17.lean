/- Routes by range: the draw; the program's RoutesOk. Routes by range: the program's RoutesOk. append of a whole slice onto an owned row, at a step of a region that draws its order. -/
import Derived.Test.YtonojegnbcgnaaaDoorZ15
import Derived.Test.YtonojegnbcgnaaaDoorZ16
import Derived.Test.YtonojegnbcgnaaaDoorZ10
import Derived.Test.YtonojegnbcgnaaaDoorZ3
import Derived.Deep.RegionHeldLaw
import Derived.Deep.RegionLaw
import Derived.Deep.AppendLies
set_option linter.unusedSimpArgs false
set_option linter.unusedVariables false
namespace Go.Proofs.YtonojegnbcgnaaaDoor
open Go.RowKit

set_option maxRecDepth 100000 in
set_option maxHeartbeats 4000000 in
theorem drawRoutesOk_any (v : Value) (w : World) (h : Given w v) :
    Calls Tryd.prog 21 #[v] w fun e w' => ∃ (u : Value) (L : List Rt), e = .returned u ∧ GOwn shRt 27 w' w.heap.size u L ∧ L.length ≤ 9 ∧ Below w.heap.size w w' := by
  go_enter Tryd.func21, Tryd.ntmps21
  go_wp2_with fail
  refine (open_any v _ h).mono ?_; rintro e w1 ⟨rfl, hR, hb1⟩
  have hr0 := hR.lt
  have hs0 := hb1.size
  have hF := Fr.start w.heap.size w1
  go_wp2_with fail
  refine (l92Routes_any _ 0 _ hR (by omega)).mono ?_; rintro e w2 ⟨u, L, rfl, hO, hL, hs, ⟨k2, hk2, hR2⟩, hK2⟩
  have hs2 := Lib.hid hs
  replace hF := hF.call hK2
  have hz2 := hK2.size
  obtain ⟨r, hr⟩ : ∃ r, w.heap.size = r := ⟨_, rfl⟩
  obtain ⟨n1, hn1⟩ : ∃ r, w1.heap.size = r := ⟨_, rfl⟩
  rw [hr] at hF hR2
  rw [hn1] at hO
  rw [hr, hn1] at hr0
  rw [hn1] at hz2
  have hW : Fr r w1 w2 [] := hF
  clear hK2 hR hs hF
  have hF := hW
  clear hW
  go_wp2_with fail
  refine (pick_any r _ _ _ hR2 (by omega) (by omega) (by omega)).mono ?_; rintro e w3 ⟨v3, rfl, x3, l3, hR3, hK3⟩
  replace hF := hF.call hK3
  replace hO := hO.kp hK3 hr0
  have hs3 := hK3.size
  clear hK3 hR2
  by_cases hz : v3 = 0
  · subst hz
    go_wp2_with fail
    refine (l92From_any r _ 2 _ hR3 (by omega) (by unfold Bts; omega)).mono ?_; rintro e wx ⟨f, b, lk, pv, mv, P, M, rfl, hP, hM, hP4, hM9, hl1, ⟨hl2, hfb⟩, ⟨k9, hk9, hRx⟩, hKx⟩
    have hr := hr0
    have hR := hR3
    obtain ⟨o1, c1, rfl, -⟩ := hP.1.1.ex
    obtain ⟨o2, c2, rfl, -⟩ := hM.1.1.ex
    have hlo := hO.lt
    replace hO := hO.kp hKx hr
    replace hF := hF.call hKx
    have hsx := hKx.size
    have hSx : Hid (SmRt (f, b, lk, P, M)) := ⟨hfb, hl1, hl2, hP4, hM9⟩
    clear hKx hR
    have hR := hRx
    go_wp2_with ((at_builtin; obtain ⟨ds, hOw, hG⟩ := hO; have hlG := hG.1; refine wpList_app rfl _ _ 34 rfl 27 (.agg #[.int .i64 0, .int .i64 0, .slice none 0 0, .int .i64 0, .slice none 0 0]) 5 72 Tryd.underlying34 infoRt rfl (by decide) (by decide) (n1) encRt _ _ rfl (hOw.alloc _) (⟨f, b, lk, .slice o1 P.length c1, .slice o2 M.length c2⟩ : RtD) ⟨_, 0, none⟩ 1 rfl rfl (cells_new _ _ _) (by simp [encRt, Value.oneCell']) (by omega) (by simp only [World.size_alloc]; omega) ?_; intro v' wx hO1 hg1 hb1 hf1; have hO := go2_snoc (s := (f, b, lk, P, M)) hG ((Below.refl _ _).alloc (Nat.le_refl _) _) hO1 hg1 hf1 (Sh.below (S := shRt) ⟨⟨rfl, rfl, rfl⟩, hP.1.1, hM.1.1⟩ ((Below.refl _ _).alloc (Nat.le_refl _) _)) (sub2 (fun g h => ⟨by have := hP.2 g h; omega, by have := hP.2 g h; simp only [World.size_alloc]; omega, fun e => by have := hP.2 g h; have := hlo g e; omega⟩) (fun g h => ⟨by have := hM.2 g h; omega, by have := hM.2 g h; simp only [World.size_alloc]; omega, fun e => by have := hM.2 g h; have := hlo g e; omega⟩)); have hsz9 := hb1.size; simp only [World.size_alloc] at hsz9; replace hR := (hR.alloc _).below hb1 hr; replace hF := (hF.other _).belowB hb1 (by omega) (by simp); clear hg1 hb1 hf1 hO1 hOw hG))
    go_ret
    exact ⟨_, L ++ [(f, b, lk, P, M)], rfl, (hO.gown (Nat.le_refl _)).base (by omega), by simp; omega, hb1.trans (hF.kp.below (by omega) (by omega))⟩
  · have dz : (v3 == 0) = false := by simp [hz]
    go_wp2_with fail
    go_ret
    exact ⟨_, L, rfl, hO.base (by omega), by omega, hb1.trans (hF.kp.below (by omega) (by omega))⟩
end Go.Proofs.YtonojegnbcgnaaaDoor
set_option linter.unusedSimpArgs false
set_option linter.unusedVariables false
namespace Go.Proofs.YtonojegnbcgnaaaDoor
open Go.RowKit

theorem rc_ok {f b g c : Int} (h1 : ROk f b) (h2 : ROk g c) : RC f b g c = rcmp f b g c := by unfold RC; rw [if_pos ⟨h1, h2⟩]
set_option maxHeartbeats 4000000 in
theorem iRoutesOk_any (v : Value) (L : List Rt) (a : Addr) (w : World) (hv : Rts w v L) (hE : EPath w a) :
    Calls Tryd.prog 22 #[v] w fun e w' => e = .returned (.bool (decide (RsOk L))) ∧ Below w.heap.size w w' := by
  have hF := Fb.start w
  obtain ⟨ao, n, cap, rfl, hn, hnc, hcap⟩ := GLs.sl hv
  have HV := Lib.hid hv
  have HE := Lib.hid hE
  clear hv hE
  by_cases h12 : n ≤ 12
  · have d12 : decide (12 < (n : Int)) = false := decide_eq_false (by omega)
    have H12 := Lib.hid h12
    go_enter Tryd.func22, Tryd.ntmps22
    go_wp2
    go_loopw [3, 4, 10] (fun s3 s4 s10 wr => ∃ k : Nat, k ≤ n ∧ s10 = .int .i64 k ∧ Hid (∀ j, j < k → RsStep L j) ∧ Fb w wr []) (fun _ _ i _ => n - (intOf i).toNat)
    case atStart => exact ⟨0, Nat.zero_le _, rfl, fun s h => (by omega), hF⟩
    case round =>
      clear hF
      obtain ⟨k, hk, rfl, hz, hF⟩ := hrel
      by_cases hlt : k < n
      · obtain ⟨b1, p1, rfl⟩ := GLs.adr HV.out (by omega)
        obtain ⟨s, hs⟩ := get_of hn.out hlt
        have HS := Lib.hid hs
        obtain ⟨f, b, lk, P, M⟩ := s
        obtain ⟨a1, m1, c1, a2, m2, c2, e0, e1, e2, e3, e4, i1, i2⟩ := Rts.at HV.out hs
        have x0 := hF.old e0
        have x1 := hF.old e1
        have x2 := hF.old e2
        have x3 := hF.old e3
        have x4 := hF.old e4
        obtain ⟨wa, hwa⟩ : ∃ wa, wr.alloc (.cells #[.int .i64 f, .int .i64 b, .slice a1 m1 c1, .int .i64 lk, .slice a2 m2 c2] 27) = wa := ⟨_, rfl⟩
        obtain ⟨n4, hn4⟩ : ∃ n4, wr.heap.size = n4 := ⟨_, rfl⟩
        have hF2 : Fb w wa [(n4, [.int .i64 f, .int .i64 b, .slice a1 m1 c1, .int .i64 lk, .slice a2 m2 c2])] := by rw [← hwa, ← hn4]; exact hF.alloc _ _
        clear hs
        go_wp2
        clear hF x0 x1 x2 x3 x4 hn4
        have hF := hF2
        clear hF2 hwa
        have oc := fun x : Cl _ wa => (Fb.cl hF x).own; simp only [World.size_alloc, World.size_drew, World.size_setCell, List.mem_cons, List.not_mem_nil, or_false, forall_eq_or_imp, forall_eq, At, and_true, Nat.zero_add, Nat.reduceAdd, List.set_cons_zero, List.set_cons_succ] at oc
        by_cases hq : RtOk f b P lk M
        · have cO := Lib.hid (fun z : Cl wa.heap.size wa => (show Calls Tryd.prog 20 #[.agg #[.int .i64 f, .int .i64 b, .slice a1 m1 c1, .int .i64 lk, .slice a2 m2 c2]] z.W fun e w' => e = .returned (.bool true) ∧ Below z.W.heap.size z.W w' from by have := iRouteOk_any f b lk _ _ P M a z.W (Rows.below i1 (hF.cl z).kp) (Rows.below i2 (hF.cl z).kp) (HE.out.below (hF.cl z).kp); rwa [decide_eq_true hq] at this))
          clear e0 e1 e2 e3 e4 i1 i2
          by_cases h0 : k = 0
          · subst h0
            have hA : Hid (∀ j, j < 0 + 1 → RsStep L j) := rs_go hz.out ((rs_0 HS.out).2 hq)
            clear hq hz
            first | refine wp_region_new (by kernel_rfl) (by kernel_rfl) ?_ | refine wp_region_lex ?_
            repeat (any_goals (first | go_big_quiet_step (((go_at_call 20; exact Calls.cl (cO.out _)))) | (refine wpQuiet_step (fun K hK => ?_); go_simp; split <;> (rename_i hg; refine hK _ ?_; clear hK K; simp only [hg, decide_true, decide_false]))))
            all_goals (refine wpQuiet_nil ?_; intro x)
            go_wp2
            go_roundw
            case rel => exact ⟨1, by omega, by go_num, hA, (hF.cl ‹_›).rest⟩
            case measure => simp [intOf]; omega
          · obtain ⟨t, ht⟩ := get_of hn.out (show k - 1 < n by omega)
            have HT := Lib.hid ht
            have hpr := rs_r ht (hz.out (k - 1) (by omega))
            obtain ⟨g, c, l2, P2, M2⟩ := t
            obtain ⟨a3, m3, c3, a4, m4, c4, g0, g1, -, -, -, -, -⟩ := Rts.at HV.out ht
            have y0 := fun z : Cl wa.heap.size wa => Cl.old hF z g0
            have y1 := fun z : Cl wa.heap.size wa => Cl.old hF z g1
            obtain ⟨N, hN⟩ : ∃ N, rcmp g c f b = N := ⟨_, rfl⟩
            have cC := Lib.hid (fun z : Cl wa.heap.size wa => (show Calls Tryd.prog 54 #[.agg #[.int .i64 g, .int .i64 c], .agg #[.int .i64 f, .int .i64 b]] z.W fun e w' => e = .returned (.int .i64 N) ∧ Below z.W.heap.size z.W w' from by have := iRangeCmp_any g c f b z.W; rwa [rc_ok hpr.1 hq.1, hN] at this))
            have HN := Lib.hid hN
            have HQ := Lib.hid hq
            have k1 : ((k : Int) - 1).toNat = k - 1 := by omega
            have k2 : IntKind.i64.wrap ((k : Int) - 1) = (k : Int) - 1 := IntWalk.i64_in _ (by omega)
            have k3 : (1 : Int) ≤ (k : Int) := by omega
            have k4 : (k : Int) - 1 < (n : Int) := by omega
            have k5 : decide (0 < (k : Int)) = true := decide_eq_true (by omega)
            have k6 : decide (0 < k) = true := decide_eq_true (by omega)
            have k7 : (0 : Int) ≤ (k : Int) - 1 := by omega
            clear ht g0 g1 hN hq hpr
            by_cases hlz : N < 0
            · have hA : Hid (∀ j, j < k + 1 → RsStep L j) := rs_go hz.out ((rs_s (by omega) HT.out HS.out).2 ⟨HQ.out, by unfold rcS; rw [show rcmp g c f b = N from HN.out]; exact hlz⟩)
              have dN : decide (0 ≤ N) = false := decide_eq_false (by omega)
              clear hlz
              first | refine wp_region_new (by kernel_rfl) (by kernel_rfl) ?_ | refine wp_region_lex ?_
              repeat (any_goals (first | go_big_quiet_step ((first | (go_at_call 20; exact Calls.cl (cO.out _)) | (go_at_call 54; exact Calls.cl (cC.out _)))) | (refine wpQuiet_step (fun K hK => ?_); go_simp; split <;> (rename_i hg; refine hK _ ?_; clear hK K; simp only [hg, decide_true, decide_false]))))
              all_goals (refine wpQuiet_nil ?_; intro x)
              go_wp2
              go_roundw
              case rel => exact ⟨k + 1, by omega, by go_num, hA, (hF.cl ‹_›).rest⟩
              case measure => simp [intOf]; omega
            · have hr : Hid (decide (RsOk L) = false) := rs_no hn.out hlt (fun g9 => hlz (by have := ((rs_s (by omega) HT.out HS.out).1 g9).2; unfold rcS at this; rw [show rcmp g c f b = N from HN.out] at this; exact this))
              have dN : decide (0 ≤ N) = true := decide_eq_true (by omega)
              clear hlz
              first | refine wp_region_new (by kernel_rfl) (by kernel_rfl) ?_ | refine wp_region_lex ?_
              repeat (any_goals (first | go_big_quiet_step ((first | (go_at_call 20; exact Calls.cl (cO.out _)) | (go_at_call 54; exact Calls.cl (cC.out _)))) | (refine wpQuiet_step (fun K hK => ?_); go_simp; split <;> (rename_i hg; refine hK _ ?_; clear hK K; simp only [hg, decide_true, decide_false]))))
              all_goals (refine wpQuiet_nil ?_; intro x)
              go_wp2
              go_ret
              exact ⟨by rw [hr.out]; rfl, (hF.cl ‹_›).kp⟩
        · have cO := Lib.hid (fun z : Cl wa.heap.size wa => (show Calls Tryd.prog 20 #[.agg #[.int .i64 f, .int .i64 b, .slice a1 m1 c1, .int .i64 lk, .slice a2 m2 c2]] z.W fun e w' => e = .returned (.bool false) ∧ Below z.W.heap.size z.W w' from by have := iRouteOk_any f b lk _ _ P M a z.W (Rows.below i1 (hF.cl z).kp) (Rows.below i2 (hF.cl z).kp) (HE.out.below (hF.cl z).kp); rwa [decide_eq_false hq] at this))
          have hr : Hid (decide (RsOk L) = false) := rs_no hn.out hlt (fun g => hq (rs_r HS.out g))
          clear e0 e1 e2 e3 e4 i1 i2 hq
          first | refine wp_region_new (by kernel_rfl) (by kernel_rfl) ?_ | refine wp_region_lex ?_
          repeat (any_goals (first | go_big_quiet_step (((go_at_call 20; exact Calls.cl (cO.out _)))) | (refine wpQuiet_step (fun K hK => ?_); go_simp; split <;> (rename_i hg; refine hK _ ?_; clear hK K; simp only [hg, decide_true, decide_false]))))
          all_goals (refine wpQuiet_nil ?_; intro x)
          go_wp2
          go_ret
          exact ⟨by rw [hr.out]; rfl, (hF.cl ‹_›).kp⟩
      · have hr : Hid (decide (RsOk L) = true) := rs_yes hn.out H12.out (fun j hj => hz.out j (by omega))
        go_wp2
        go_ret
        exact ⟨by rw [hr.out]; rfl, hF.kp⟩
  · have d12 : decide (12 < (n : Int)) = true := decide_eq_true (by omega)
    have hr : Hid (decide (RsOk L) = false) := rs_long hn.out h12
    go_enter Tryd.func22, Tryd.ntmps22
    go_wp2
    go_ret
    exact ⟨by rw [hr.out]; rfl, hF.kp⟩
end Go.Proofs.YtonojegnbcgnaaaDoor
set_option linter.unusedSimpArgs false
set_option linter.unusedVariables false
namespace Go.Proofs.YtonojegnbcgnaaaDoor
open Go Go.RowKit

theorem step_appsM {α : Type} {P : Program} {ops : Array Oper} {o : Oper} {a : Act} {w : World} {K : Act → World → Prop} {Q : Exit → Act → World → Prop} {F : Prop} (hw : Region.wanted o (yielded ops a.tmps) = true) (s x : Operand) (t : TypeId)
    (ho : o.op = .call { callee := .builtin .append, args := #[s, x], argTypes := #[t, t] })
    (E : TypeId) (z : Value) (sz bytes : Nat) (ht : P.underlying t = some (.slice E)) (hI : (P.info? E).map (fun i => (i.zero, i.size, i.bytes)) = some (some z, sz, bytes)) (hzs : z.cells.size = sz) (hsz : 0 < sz) (hby : bytes ≤ 1000)
    (B : Nat) (enc : α → List Value) (hen : ∀ x, (enc x).length = sz) (v : Value) (L : List α) (hs : a.eval s = v) (hown : Own E w B v sz enc L)
    (b off m c : Nat) (K2 : List α) (hone : ∀ x ∈ K2, ∀ u ∈ enc x, u.oneCell' = true) (hx : a.eval x = .slice (some ⟨b, off, none⟩) m c) (hK : Rows w (.slice (some ⟨b, off, none⟩) m c) sz enc K2)
    (hlen : L.length + m ≤ 1000000) (hB : B ≤ w.heap.size)
    (h : ∀ v' w', Own E w' B v' sz enc (L ++ K2) → w.grownBy w' v.ownBlock → Below B w w' → Frsh w v v' → K (a.put o.dst v') w') : if Region.wanted o (yielded ops a.tmps) = true then Oper.wp P o a w K Q else F := by
  rw [if_pos hw]
  obtain ⟨i, hi, hz, hsize, hbytes⟩ := info_parts hI
  have hKm : K2.length = m := by
    obtain ⟨ao, cap, e, _⟩ := hK.ex
    injection e with _ e; exact e.symm
  have hm : L.length + m ≤ maxLen := by unfold maxLen; omega
  have hb : (L.length + m) * bytes ≤ 140737488355328 := Nat.le_trans (Nat.mul_le_mul (show L.length + m ≤ 1000001 by omega) hby) (by omega)
  have hfl : (K2.flatMap enc).length = m * sz := by rw [flat_len hen, hKm]
  have hone' : ∀ u ∈ K2.flatMap enc, u.oneCell' = true := fun u hu => by
    obtain ⟨y, hy1, hy⟩ := List.mem_flatMap.1 hu
    exact hone y hy1 u hy
  obtain ⟨v', w', hr, h2, h3, h4⟩ := run_append_own (P := P) w B t o.type E i z sz bytes ht hi hz hsize hbytes hzs hsz v L.length (L.flatMap enc) hown ⟨b, off, none⟩ m c (K2.flatMap enc) hfl (rows_flat hK hen) hone' hm hb hB
  have hf := append_block0 (P := P) (w := w) B t o.type E i z sz bytes ht hi hz hsize hbytes v L.length (L.flatMap enc) hown ⟨b, off, none⟩ m c (K2.flatMap enc) hfl (rows_flat hK hen) hone' hm hb hr
  unfold Oper.wp execOp
  simp only [ho, resolve, invoke, builtin, Sem.run_bind, Sem.run_pure, Result.andThen_ok, List.map_toArray, List.map_cons, List.map_nil, hs, hx, hr]
  exact h v' w' (by unfold Own; rw [List.length_append, List.flatMap_append, hKm]; exact h2) h3 (own_grown hown h3 hB) hf
theorem step_apps {α : Type} {P : Program} {ops : Array Oper} {o : Oper} {a : Act} {w : World} {K : Act → World → Prop} {Q : Exit → Act → World → Prop} {F : Prop} (hw : Region.wanted o (yielded ops a.tmps) = true) (s x : Operand) (t : TypeId)
    (ho : o.op = .call { callee := .builtin .append, args := #[s, x], argTypes := #[t, t] })
    (E : TypeId) (z : Value) (sz bytes : Nat) (ht : P.underlying t = some (.slice E)) (hI : (P.info? E).map (fun i => (i.zero, i.size, i.bytes)) = some (some z, sz, bytes)) (hzs : z.cells.size = sz) (hsz : 0 < sz) (hby : bytes ≤ 1000)
    (B : Nat) (enc : α → List Value) (hen : ∀ x, (enc x).length = sz) (hone : ∀ x, ∀ u ∈ enc x, u.oneCell' = true) (v : Value) (L : List α) (hs : a.eval s = v) (hown : Own E w B v sz enc L)
    (b off m c : Nat) (K2 : List α) (hx : a.eval x = .slice (some ⟨b, off, none⟩) m c) (hK : Rows w (.slice (some ⟨b, off, none⟩) m c) sz enc K2)
    (hlen : L.length + m ≤ 1000000) (hB : B ≤ w.heap.size)
    (h : ∀ v' w', Own E w' B v' sz enc (L ++ K2) → w.grownBy w' v.ownBlock → Below B w w' → Frsh w v v' → K (a.put o.dst v') w') : if Region.wanted o (yielded ops a.tmps) = true then Oper.wp P o a w K Q else F := by
  rw [if_pos hw]
  obtain ⟨i, hi, hz, hsize, hbytes⟩ := info_parts hI
  have hKm : K2.length = m := by
    obtain ⟨ao, cap, e, _⟩ := hK.ex
    injection e with _ e; exact e.symm
  have hm : L.length + m ≤ maxLen := by unfold maxLen; omega
  have hb : (L.length + m) * bytes ≤ 140737488355328 := Nat.le_trans (Nat.mul_le_mul (show L.length + m ≤ 1000001 by omega) hby) (by omega)
  have hfl : (K2.flatMap enc).length = m * sz := by rw [flat_len hen, hKm]
  have hone' : ∀ u ∈ K2.flatMap enc, u.oneCell' = true := fun u hu => by
    obtain ⟨y, _, hy⟩ := List.mem_flatMap.1 hu
    exact hone y u hy
  obtain ⟨v', w', hr, h2, h3, h4⟩ := run_append_own (P := P) w B t o.type E i z sz bytes ht hi hz hsize hbytes hzs hsz v L.length (L.flatMap enc) hown ⟨b, off, none⟩ m c (K2.flatMap enc) hfl (rows_flat hK hen) hone' hm hb hB
  have hf := append_block0 (P := P) (w := w) B t o.type E i z sz bytes ht hi hz hsize hbytes v L.length (L.flatMap enc) hown ⟨b, off, none⟩ m c (K2.flatMap enc) hfl (rows_flat hK hen) hone' hm hb hr
  unfold Oper.wp execOp
  simp only [ho, resolve, invoke, builtin, Sem.run_bind, Sem.run_pure, Result.andThen_ok, List.map_toArray, List.map_cons, List.map_nil, hs, hx, hr]
  exact h v' w' (by unfold Own; rw [List.length_append, List.flatMap_append, hKm]; exact h2) h3 (own_grown hown h3 hB) hf
theorem step_app1 {α : Type} {P : Program} {ops : Array Oper} {o : Oper} {a : Act} {w : World} {K : Act → World → Prop} {Q : Exit → Act → World → Prop} {F : Prop} (hw : Region.wanted o (yielded ops a.tmps) = true) (s x : Operand) (t : TypeId)
    (ho : o.op = .call { callee := .builtin .append, args := #[s, x], argTypes := #[t, t] })
    (E : TypeId) (z : Value) (sz bytes : Nat) (ht : P.underlying t = some (.slice E)) (hI : (P.info? E).map (fun i => (i.zero, i.size, i.bytes)) = some (some z, sz, bytes)) (hzs : z.cells.size = sz) (hsz : 0 < sz) (hby : bytes ≤ 1000)
    (B : Nat) (enc : α → List Value) (v : Value) (L : List α) (hs : a.eval s = v) (hown : Own E w B v sz enc L) (y : α)
    (ad : Addr) (c : Nat) (hx : a.eval x = .slice (some ad) 1 c) (hl : (enc y).length = sz) (hnews : ∀ j u, (enc y)[j]? = some u → w.cell? (ad.add j) = some u) (h1 : ∀ u ∈ enc y, u.oneCell' = true)
    (hlen : L.length ≤ 1000000) (hB : B ≤ w.heap.size)
    (h : ∀ v' w', Own E w' B v' sz enc (L ++ [y]) → w.grownBy w' v.ownBlock → Below B w w' → Frsh w v v' → K (a.put o.dst v') w') : if Region.wanted o (yielded ops a.tmps) = true then Oper.wp P o a w K Q else F := by
  rw [if_pos hw]
  obtain ⟨i, hi, hz, hsize, hbytes⟩ := info_parts hI
  have hm : L.length + 1 ≤ maxLen := by unfold maxLen; omega
  have hb : (L.length + 1) * bytes ≤ 140737488355328 := Nat.le_trans (Nat.mul_le_mul (show L.length + 1 ≤ 1000001 by omega) hby) (by omega)
  obtain ⟨v', w', hr, h2, h3, h4⟩ := run_append_own (P := P) w B t o.type E i z sz bytes ht hi hz hsize hbytes hzs hsz v L.length (L.flatMap enc) hown ad 1 c (enc y) (by omega) hnews h1 hm hb hB
  have hf := append_block (P := P) (w := w) B t o.type E i z sz bytes ht hi hz hsize hbytes v L.length (L.flatMap enc) hown ad 1 c (enc y) (by omega) hnews h1 hm hb (by omega) hr
  unfold Oper.wp execOp
  simp only [ho, resolve, invoke, builtin, Sem.run_bind, Sem.run_pure, Result.andThen_ok, List.map_toArray, List.map_cons, List.map_nil, hs, hx, hr]
  exact h v' w' (by unfold Own; rw [List.length_append, List.flatMap_append]; simpa using h2) h3 (own_grown hown h3 hB) hf
/-- A guarded operation that is wanted, in a region that goes in order. -/
theorem wpListG {P : Program} {ops : Array Oper} {rest : List Oper} {o : Oper} {a : Act} {w : World} {Q : Exit → Act → World → Prop} (hw : Region.wanted o (yielded ops a.tmps) = true)
    (h : if Region.wanted o (yielded ops a.tmps) = true then Oper.wp P o a w (wpList P ops Q rest) Q else True) : wpList P ops Q (o :: rest) a w := by
  rw [if_pos hw] at h
  unfold wpList
  rw [if_pos hw]
  exact Or.inl h
end Go.Proofs.YtonojegnbcgnaaaDoor
