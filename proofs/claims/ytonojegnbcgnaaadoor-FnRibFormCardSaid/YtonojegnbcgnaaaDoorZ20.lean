/- What a house told: a route told (the model's own way). -/
import Derived.Test.YtonojegnbcgnaaaDoorZ19
set_option linter.unusedSimpArgs false
set_option linter.unusedVariables false
namespace Go.Proofs.YtonojegnbcgnaaaDoor
open Go.RowKit

theorem GO2.gown' {δ β : Type} {S : Sh δ β} {E : TypeId} {w : World} {R B : Nat} {v : Value} {L : List β} (h : GO2 S E w R B v L) (B' : Nat) (h1 : B' ≤ R) (h2 : B' ≤ B) : GOwn S E w B' v L := by
  obtain ⟨ds, k1, k2⟩ := h
  exact ⟨ds, k1.base h1, k2.mono h2 (Nat.le_refl _)⟩
/-- What RibTell returns. -/
def TellR (w : World) (e : Ending) (w' : World) : Prop := ∃ (H2 : Int) (up2 bo : Bool) (u : Value) (K : List Gt), e = .returned (.tuple #[.agg #[.int .i64 H2, .bool up2, u], .bool bo]) ∧ RibR w w' H2 up2 u K
set_option maxRecDepth 100000 in
set_option maxHeartbeats 8000000 in
theorem RibTell_any (H : Int) (up : Bool) (v : Value) (L : List Gt) (g c l2 : Int) (pv mv : Value) (PX MX : List Int) (w : World) (hv : Gts w v L) (hs : ∀ s ∈ L, SmG s) (hi1 : It w pv PX) (hi2 : It w mv MX) (hxs : PX.length ≤ 100 ∧ MX.length ≤ 100) :
    Calls Tryd.prog 98 #[.agg #[.int .i64 H, .bool up, v], .agg #[.int .i64 g, .int .i64 c, pv, .int .i64 l2, mv]] w fun e w' => TellR w e w' := by
  obtain ⟨ao, n, cap, rfl, hn, hnc, hcap⟩ := GLs.sl hv
  obtain ⟨o1, px, p1, rfl, hpx, -, -⟩ := Ints.sl hi1.1
  obtain ⟨o2, mx, m1, rfl, hmx, -, -⟩ := Ints.sl hi2.1
  have hF := (((Fb.start w).alloc [.int .i64 H, .bool up, .slice ao n cap] 44).alloc [.int .i64 g, .int .i64 c, .slice o1 px p1, .int .i64 l2, .slice o2 mx m1] 27).alloc [.int .i64 0, .bool false, .slice none 0 0] 44
  have HV := Lib.hid hv
  have HX := Lib.hid (And.intro hi1 hi2)
  have HSm := Lib.hid hs
  have HXs := Lib.hid hxs
  obtain ⟨wa, hwa⟩ : ∃ wa, ((w.alloc (.cells #[.int .i64 H, .bool up, .slice ao n cap] 44)).alloc (.cells #[.int .i64 g, .int .i64 c, .slice o1 px p1, .int .i64 l2, .slice o2 mx m1] 27)).alloc (.cells #[.int .i64 0, .bool false, .slice none 0 0] 44) = wa := ⟨_, rfl⟩
  simp only [World.size_alloc] at hF
  obtain ⟨n1, hn1⟩ : ∃ n, w.heap.size = n := ⟨_, rfl⟩
  rw [hn1] at hF
  have hsz : n1 + 3 ≤ wa.heap.size := by rw [← hwa]; simp only [World.size_alloc]; omega
  have HN := Lib.hid hn1
  have hF2 : Fb w wa [(n1 + 1 + 1, [.int .i64 0, .bool false, .slice none 0 0]), (n1 + 1, [.int .i64 g, .int .i64 c, .slice o1 px p1, .int .i64 l2, .slice o2 mx m1]), (n1, [.int .i64 H, .bool up, .slice ao n cap])] := by rw [← hwa]; exact hF
  clear hv hs hi1 hi2 hxs
  go_enter Tryd.func98, Tryd.ntmps98
  go_wp2
  clear hF hwa hn1
  have hF := hF2
  clear hF2
  have oc := fun x : Cl _ wa => (Fb.cl hF x).own; simp only [World.size_alloc, World.size_drew, World.size_setCell, List.mem_cons, List.not_mem_nil, or_false, forall_eq_or_imp, forall_eq, At, and_true, Nat.zero_add, Nat.reduceAdd, List.set_cons_zero, List.set_cons_succ] at oc
  by_cases hq : RbOk H up L
  · have cR := Lib.hid (fun z : Cl wa.heap.size wa => (show Calls Tryd.prog 26 #[.agg #[.int .i64 H, .bool up, .slice ao n cap]] z.W fun e w' => e = .returned (.bool true) ∧ Below z.W.heap.size z.W w' from by have := sRibOk_any H up _ L z.W (GLs.below HV.out (hF.cl z).kp); rwa [decide_eq_true hq] at this))
    have HL := Lib.hid hq.1.2
    clear hq
    by_cases hx : RtOk g c PX l2 MX
    · have cX := Lib.hid (fun z : Cl wa.heap.size wa => (show Calls Tryd.prog 38 #[.agg #[.int .i64 g, .int .i64 c, .slice o1 px p1, .int .i64 l2, .slice o2 mx m1]] z.W fun e w' => e = .returned (.bool true) ∧ Below z.W.heap.size z.W w' from by have := sRouteOk_any g c l2 _ _ PX MX z.W (It.below HX.out.1 (hF.cl z).kp).1 (It.below HX.out.2 (hF.cl z).kp).1; rwa [decide_eq_true hx] at this))
      have hp0 : 0 < px := by have := hx.2.1; have := hpx.out; omega
      obtain ⟨b5, p5, rfl⟩ := Ints.some HX.out.1.1 hp0
      obtain ⟨x5, hx5⟩ := get_of hpx.out hp0
      have y0 := Ints.get HX.out.1.1 hx5
      simp only [Nat.add_zero] at y0
      have z0 := fun z : Cl wa.heap.size wa => Cl.old hF z y0
      clear hx hx5 y0
      by_cases hxH : x5 = H
      · have dx : (x5 != H) = false := by simp [hxH]
        clear hxH
        first | refine wp_region_new (by kernel_rfl) (by kernel_rfl) ?_ | refine wp_region_lex ?_
        repeat (any_goals (first | go_big_quiet_step ((first | (go_at_call 26; exact Calls.cl (cR.out _)) | (go_at_call 38; exact Calls.cl (cX.out _)))) | (refine wpQuiet_step (fun K hK => ?_); go_simp; split <;> (rename_i hg; refine hK _ ?_; clear hK K; simp only [hg, decide_true, decide_false]))))
        all_goals (refine wpQuiet_nil ?_; intro x)
        obtain ⟨wq, hbq⟩ := x
        dsimp only
        replace hF := hF.below hbq
        have hsq := hbq.size
        clear oc cR cX hbq z0
        have o := hF.own; simp only [World.size_alloc, World.size_drew, World.size_setCell, List.mem_cons, List.not_mem_nil, or_false, forall_eq_or_imp, forall_eq, At, and_true, Nat.zero_add, Nat.reduceAdd, List.set_cons_zero, List.set_cons_succ] at o
        have HL6 : n ≤ 6 := by have := hn.out; have := HL.out; omega
        go_wp2_with fail
        refine (l21Copy_any H up _ L _ (GLs.below HV.out hF.kp) (by have := HL.out; omega) HSm.out).mono ?_; rintro e w3 ⟨u, rfl, hO, hb3⟩
        have hs3 := hb3.size
        have hlu := hO.lt
        replace hO := hO.base (B := n1 + 3) (by omega)
        obtain ⟨au, cu, rfl⟩ := hO.sl
        rw [hn.out] at hO hlu ⊢
        replace hF := (hF.below hb3).alloc [.int .i64 H, .bool up, .slice au n cu] 44
        replace hO := hO.alloc (.cells #[.int .i64 H, .bool up, .slice au n cu] 44)
        obtain ⟨n6, hn6⟩ : ∃ n, w3.heap.size = n := ⟨_, rfl⟩
        rw [hn6] at hF hlu
        have hs4 : n6 < (w3.alloc (.cells #[.int .i64 H, .bool up, .slice au n cu] 44)).heap.size := by simp only [World.size_alloc]; omega
        have h63 : n1 + 3 ≤ n6 := by omega
        clear hb3 o
        have o := hF.own; simp only [World.size_alloc, World.size_drew, World.size_setCell, List.mem_cons, List.not_mem_nil, or_false, forall_eq_or_imp, forall_eq, At, and_true, Nat.zero_add, Nat.reduceAdd, List.set_cons_zero, List.set_cons_succ] at o
        go_wp2_with fail
        refine (l21At_any H up _ L g c _ (GLs.below HV.out hF.kp)).mono ?_; rintro e w4 ⟨z, rfl, hz0, hz1, hb4⟩
        rw [hn.out] at hz1
        replace hF := hF.below hb4
        replace hO := hO.below hb4
        have hs5 := hb4.size
        clear hb4 o hn6 hs3 hsq hsz
        have hs6 : n6 < w4.heap.size := by omega
        clear hs4 hs5
        have o := hF.own; simp only [World.size_alloc, World.size_drew, World.size_setCell, List.mem_cons, List.not_mem_nil, or_false, forall_eq_or_imp, forall_eq, At, and_true, Nat.zero_add, Nat.reduceAdd, List.set_cons_zero, List.set_cons_succ] at o
        cases up with
        | false =>
          replace hO := hO.go3
          go_wp2_with fail
          obtain ⟨wz, hwz, hG, hszz, hput⟩ := put3f (Fb.swpB hF) (by simp <;> omega) (.int .i64 H) (.bool false) (.slice au n cu)
          have hOz := hput _ _ _ _ _ _ (Or.inl (by omega)) hO
          rw [← hwz]
          clear hwz o hF hput
          have hF := hG
          have o := hF.own; simp only [World.size_alloc, World.size_drew, World.size_setCell, List.mem_cons, List.not_mem_nil, or_false, forall_eq_or_imp, forall_eq, At, and_true, Nat.zero_add, Nat.reduceAdd, List.set_cons_zero, List.set_cons_succ] at o
          refine bodyPost_ret (v := .tuple #[.agg #[.int .i64 H, .bool false, (.slice au n cu)], .bool false]) ?_ rfl ?_
          · simp [results, Tryd.results98, go_sem, o]
          · exact ⟨_, _, _, _, L, rfl, hOz.gown (Nat.le_of_eq hszz.symm) (by have := HN.out; omega), HL.out, HSm.out, hG.kp⟩
        | true =>
          by_cases hzz : 0 ≤ z
          · obtain ⟨zn, rfl⟩ := Int.eq_ofNat_of_zero_le hzz
            have hzn : zn < n := by omega
            obtain ⟨s, hs⟩ := get_of hn.out hzn
            obtain ⟨ds, hOw, hRl⟩ := id hO
            have hdl : 0 < ds.length := by have := hRl.1; have := hn.out; omega
            rcases hOw.two with ⟨e, h0⟩ | ⟨g9, c9, m9, e, hmc9, -⟩
            · exfalso; rw [h0] at hdl; simp at hdl
            injection e with q1 q2 q3
            subst q1; subst q2; subst q3
            have hg9 := hO.ge g9 rfl
            have hl9 := hlu g9 rfl
            have dz : decide (0 ≤ (zn : Int)) = true := decide_eq_true (by omega)
            have dz2 : decide ((zn : Int) < 0) = false := decide_eq_false (by omega)
            clear hOw hRl hdl
            go_upto_region 8 with (fail)
            refine wp_region_held_drew (S := fun w' => w'.cell? ⟨n6, 2, none⟩ = some (.slice (some ⟨g9, 0, none⟩) n cu) ∧ w'.cell? ⟨n1 + 1, 0, none⟩ = some (.int .i64 g) ∧ w'.cell? ⟨n1 + 1, 1, none⟩ = some (.int .i64 c) ∧ w'.cell? ⟨n1 + 1, 2, none⟩ = some (.slice (some ⟨b5, p5, none⟩) px p1) ∧ w'.cell? ⟨n1 + 1, 3, none⟩ = some (.int .i64 l2) ∧ w'.cell? ⟨n1 + 1, 4, none⟩ = some (.slice o2 mx m1)) (by kernel_rfl) ?hs (fun hHeld => ?_)
            case hs => exact ⟨Fb.get (by repeat (first | with_reducible exact hF | with_reducible apply Fb.drew | with_reducible apply Fb.other)) (List.mem_cons_self ..) rfl, Fb.get (by repeat (first | with_reducible exact hF | with_reducible apply Fb.drew | with_reducible apply Fb.other)) (List.mem_cons_of_mem _ (List.mem_cons_of_mem _ (List.mem_cons_self ..))) rfl, Fb.get (by repeat (first | with_reducible exact hF | with_reducible apply Fb.drew | with_reducible apply Fb.other)) (List.mem_cons_of_mem _ (List.mem_cons_of_mem _ (List.mem_cons_self ..))) rfl, Fb.get (by repeat (first | with_reducible exact hF | with_reducible apply Fb.drew | with_reducible apply Fb.other)) (List.mem_cons_of_mem _ (List.mem_cons_of_mem _ (List.mem_cons_self ..))) rfl, Fb.get (by repeat (first | with_reducible exact hF | with_reducible apply Fb.drew | with_reducible apply Fb.other)) (List.mem_cons_of_mem _ (List.mem_cons_of_mem _ (List.mem_cons_self ..))) rfl, Fb.get (by repeat (first | with_reducible exact hF | with_reducible apply Fb.drew | with_reducible apply Fb.other)) (List.mem_cons_of_mem _ (List.mem_cons_of_mem _ (List.mem_cons_self ..))) rfl⟩
            refine wpAnyH_take (i := 0) (oi := _) (v := ?_) (by simp only [List.getElem?_toArray, List.getElem?_cons_succ, List.getElem?_cons_zero]; rfl) (by kernel_rfl) (by kernel_rfl) (by kernel_rfl) (by exact fun _ _ _ h => h) (Or.inl ⟨by rfl, ?hy⟩) (by assumption) ?_
            case hy => (intro w hSw; (try dsimp only at hSw); go_simp; (try with_reducible rfl))
            (try simp only [Act.put, List.setIfInBounds_toArray, List.set_cons_zero, List.set_cons_succ])
            refine wpAnyH_take (i := 1) (oi := _) (v := ?_) (by simp only [List.getElem?_toArray, List.getElem?_cons_succ, List.getElem?_cons_zero]; rfl) (by kernel_rfl) (by kernel_rfl) (by kernel_rfl) (by exact fun _ _ _ h => h) (Or.inl ⟨by rfl, ?hy⟩) (by assumption) ?_
            case hy => (intro w hSw; (try dsimp only at hSw); go_simp; (try with_reducible rfl))
            (try simp only [Act.put, List.setIfInBounds_toArray, List.set_cons_zero, List.set_cons_succ])
            refine wpAnyH_take (i := 2) (oi := _) (v := ?_) (by simp only [List.getElem?_toArray, List.getElem?_cons_succ, List.getElem?_cons_zero]; rfl) (by kernel_rfl) (by kernel_rfl) (by kernel_rfl) (by exact fun _ _ _ h => h) (Or.inl ⟨by rfl, ?hy⟩) (by assumption) ?_
            case hy => (intro w hSw; (try dsimp only at hSw); go_simp; (try with_reducible rfl))
            (try simp only [Act.put, List.setIfInBounds_toArray, List.set_cons_zero, List.set_cons_succ])
            refine wpAnyH_take (i := 3) (oi := _) (v := ?_) (by simp only [List.getElem?_toArray, List.getElem?_cons_succ, List.getElem?_cons_zero]; rfl) (by kernel_rfl) (by kernel_rfl) (by kernel_rfl) (by exact fun _ _ _ h => h) (Or.inl ⟨by rfl, ?hy⟩) (by assumption) ?_
            case hy => (intro w hSw; (try dsimp only at hSw); go_simp; (try with_reducible rfl))
            (try simp only [Act.put, List.setIfInBounds_toArray, List.set_cons_zero, List.set_cons_succ])
            refine wpAnyH_ready (rs := [4]) (by kernel_rfl) (by simp) ?_
            refine AllReadyH.cons (o := _) (by simp only [List.getElem?_toArray, List.getElem?_cons_succ, List.getElem?_cons_zero]; rfl) (fun KK hK => ?_) AllReadyH.nil
            go_simp
            (go_at_call 40; go_must (refine (l4Copy_any g c l2 _ _ PX MX _ (It.below HX.out.1 (Fb.kp (W := w) (by repeat (first | with_reducible exact hF | with_reducible apply Fb.drew | with_reducible apply Fb.other)))) (It.below HX.out.2 (Fb.kp (W := w) (by repeat (first | with_reducible exact hF | with_reducible apply Fb.drew | with_reducible apply Fb.other)))) (by have := HXs.out.1; omega) (by have := HXs.out.2; omega)).mono ?_); rintro e wy ⟨pv9, mv9, rfl, y1, y2, hby⟩; obtain ⟨oy1, cy1, rfl, -⟩ := y1.1.1.ex; obtain ⟨oy2, cy2, rfl, -⟩ := y2.1.1.ex; have hlo := hO.lt; have hsy := hby.size; simp only [World.size_drew] at hsy y1 y2; replace hF := Fb.below (by repeat (first | with_reducible exact hF | with_reducible apply Fb.drew | with_reducible apply Fb.other)) hby; replace hO := GOwn.below (by repeat (first | with_reducible exact hO | with_reducible apply GOwn.drew | with_reducible apply GOwn.alloc)) hby; clear hby o; have o := hF.own; simp only [World.size_alloc, World.size_drew, World.size_setCell, List.mem_cons, List.not_mem_nil, or_false, forall_eq_or_imp, forall_eq, At, and_true, Nat.zero_add, Nat.reduceAdd, List.set_cons_zero, List.set_cons_succ] at o)
            (try go_wp2_with fail)
            refine hK.out _ _ ?hs (fun hHeld => ?_)
            case hs => ((try dsimp only); exact ⟨Fb.get (by repeat (first | with_reducible exact hF | with_reducible apply Fb.drew | with_reducible apply Fb.other)) (List.mem_cons_self ..) rfl, Fb.get (by repeat (first | with_reducible exact hF | with_reducible apply Fb.drew | with_reducible apply Fb.other)) (List.mem_cons_of_mem _ (List.mem_cons_of_mem _ (List.mem_cons_self ..))) rfl, Fb.get (by repeat (first | with_reducible exact hF | with_reducible apply Fb.drew | with_reducible apply Fb.other)) (List.mem_cons_of_mem _ (List.mem_cons_of_mem _ (List.mem_cons_self ..))) rfl, Fb.get (by repeat (first | with_reducible exact hF | with_reducible apply Fb.drew | with_reducible apply Fb.other)) (List.mem_cons_of_mem _ (List.mem_cons_of_mem _ (List.mem_cons_self ..))) rfl, Fb.get (by repeat (first | with_reducible exact hF | with_reducible apply Fb.drew | with_reducible apply Fb.other)) (List.mem_cons_of_mem _ (List.mem_cons_of_mem _ (List.mem_cons_self ..))) rfl, Fb.get (by repeat (first | with_reducible exact hF | with_reducible apply Fb.drew | with_reducible apply Fb.other)) (List.mem_cons_of_mem _ (List.mem_cons_of_mem _ (List.mem_cons_self ..))) rfl⟩)
            clear hK KK
            (try simp only [Act.put, List.setIfInBounds_toArray, List.set_cons_zero, List.set_cons_succ])
            refine wpAnyH_take (i := 5) (oi := _) (v := ?_) (by simp only [List.getElem?_toArray, List.getElem?_cons_succ, List.getElem?_cons_zero]; rfl) (by kernel_rfl) (by kernel_rfl) (by kernel_rfl) (by exact fun _ _ _ h => h) (Or.inl ⟨by rfl, ?hy⟩) (by assumption) ?_
            case hy => (intro w hSw; (try dsimp only at hSw); go_simp; (try with_reducible rfl))
            (try simp only [Act.put, List.setIfInBounds_toArray, List.set_cons_zero, List.set_cons_succ])
            refine wpAnyH_take (i := 6) (oi := _) (v := ?_) (by simp only [List.getElem?_toArray, List.getElem?_cons_succ, List.getElem?_cons_zero]; rfl) (by kernel_rfl) (by kernel_rfl) (by kernel_rfl) (by exact fun _ _ _ h => h) (Or.inl ⟨by rfl, ?hy⟩) (by assumption) ?_
            case hy => (intro w hSw; (try dsimp only at hSw); go_simp; (try with_reducible rfl))
            (try simp only [Act.put, List.setIfInBounds_toArray, List.set_cons_zero, List.set_cons_succ])
            refine wpAnyH_ready (rs := [7]) (by kernel_rfl) (by simp) ?_
            refine AllReadyH.cons (o := _) (by simp only [List.getElem?_toArray, List.getElem?_cons_succ, List.getElem?_cons_zero]; rfl) (fun KK hK => ?_) AllReadyH.nil
            obtain ⟨⟨f, b, lk, P, M⟩, old⟩ := s
            obtain ⟨a1, m9, c1, a2, m2, c2, ⟨q0, q1, q2, q3, q4, q5⟩, -, -⟩ := Gts.at hO.gls hs
            simp only [Nat.zero_add] at q0 q1 q2 q3 q4 q5
            have v0 := gown_live hO (zn * 6)
            have v1 := gown_live hO (zn * 6 + 1)
            have v2 := gown_live hO (zn * 6 + 2)
            have v3 := gown_live hO (zn * 6 + 3)
            have v4 := gown_live hO (zn * 6 + 4)
            have v5 := gown_live hO (zn * 6 + 5)
            go_simp
            obtain ⟨wz, hwz, hO2, hszq, hgq⟩ := gown_put6 hO hs g c l2 PX MX false (.slice oy1 PX.length cy1) (.slice oy2 MX.length cy2) y1.1 y2.1 (fun g' h => by have := y1.2 g' h; exact ⟨by omega, by omega, by omega⟩) (fun g' h => by have := y2.2 g' h; exact ⟨by omega, by omega, by omega⟩)
            rw [← hwz]
            clear hwz q0 q1 q2 q3 q4 q5 v0 v1 v2 v3 v4 v5
            replace hF := hF.grownQ hgq (fun g' hg => by injection hg with hg; have := HN.out; omega) (fun p hp e => by
              injection e with e
              simp only [List.mem_cons, List.not_mem_nil, or_false] at hp
              rcases hp with rfl | rfl | rfl | rfl <;> simp only at e <;> omega)
            replace hO := hO2.go3
            have hsm2 := Lib.hid (sm_put (x := ((g, c, l2, PX, MX), false)) HSm.out HXs.out (i := zn))
            have hlen2 : Hid ((L.set zn (((g, c, l2, PX, MX), false) : Gt)).length ≤ 6) := by show _ ≤ _; rw [List.length_set]; exact HL.out
            clear hO2 o
            refine hK.out _ _ ?hs (fun hHeld => ?_)
            case hs => ((try dsimp only); exact ⟨Fb.get (by repeat (first | with_reducible exact hF | with_reducible apply Fb.drew | with_reducible apply Fb.other)) (List.mem_cons_self ..) rfl, Fb.get (by repeat (first | with_reducible exact hF | with_reducible apply Fb.drew | with_reducible apply Fb.other)) (List.mem_cons_of_mem _ (List.mem_cons_of_mem _ (List.mem_cons_self ..))) rfl, Fb.get (by repeat (first | with_reducible exact hF | with_reducible apply Fb.drew | with_reducible apply Fb.other)) (List.mem_cons_of_mem _ (List.mem_cons_of_mem _ (List.mem_cons_self ..))) rfl, Fb.get (by repeat (first | with_reducible exact hF | with_reducible apply Fb.drew | with_reducible apply Fb.other)) (List.mem_cons_of_mem _ (List.mem_cons_of_mem _ (List.mem_cons_self ..))) rfl, Fb.get (by repeat (first | with_reducible exact hF | with_reducible apply Fb.drew | with_reducible apply Fb.other)) (List.mem_cons_of_mem _ (List.mem_cons_of_mem _ (List.mem_cons_self ..))) rfl, Fb.get (by repeat (first | with_reducible exact hF | with_reducible apply Fb.drew | with_reducible apply Fb.other)) (List.mem_cons_of_mem _ (List.mem_cons_of_mem _ (List.mem_cons_self ..))) rfl⟩)
            clear hK KK
            (try simp only [Act.put, List.setIfInBounds_toArray, List.set_cons_zero, List.set_cons_succ])
            refine wpAnyH_done (by kernel_rfl) ?_ _
            have o := hF.own; simp only [World.size_alloc, World.size_drew, World.size_setCell, List.mem_cons, List.not_mem_nil, or_false, forall_eq_or_imp, forall_eq, At, and_true, Nat.zero_add, Nat.reduceAdd, List.set_cons_zero, List.set_cons_succ] at o
            go_wp2_with fail
            obtain ⟨wz, hwz, hG, hszz, hput⟩ := put3f (Fb.swpB hF) (by simp <;> omega) (.int .i64 H) (.bool true) (.slice (some ⟨g9, 0, none⟩) n cu)
            have hOz := hput _ _ _ _ _ _ (Or.inl (by omega)) hO
            rw [← hwz]
            clear hwz o hF hput
            have hF := hG
            have o := hF.own; simp only [World.size_alloc, World.size_drew, World.size_setCell, List.mem_cons, List.not_mem_nil, or_false, forall_eq_or_imp, forall_eq, At, and_true, Nat.zero_add, Nat.reduceAdd, List.set_cons_zero, List.set_cons_succ] at o
            refine bodyPost_ret (v := .tuple #[.agg #[.int .i64 H, .bool true, (.slice (some ⟨g9, 0, none⟩) n cu)], .bool true]) ?_ rfl ?_
            · simp [results, Tryd.results98, go_sem, o]
            · exact ⟨_, _, _, _, _, rfl, hOz.gown (Nat.le_of_eq hszz.symm) (by have := HN.out; omega), hlen2.out, hsm2.out, hG.kp⟩
          · by_cases h6 : n = 6
            · have dz : decide (0 ≤ z) = false := decide_eq_false hzz
              have dz2 : decide (z < 0) = true := decide_eq_true (by omega)
              have d6 : decide (6 ≤ (n : Int)) = true := decide_eq_true (by omega)
              replace hO := hO.go3
              clear h6
              go_wp2_with fail
              obtain ⟨wz, hwz, hG, hszz, hput⟩ := put3f (Fb.swpB hF) (by simp <;> omega) (.int .i64 H) (.bool true) (.slice au n cu)
              have hOz := hput _ _ _ _ _ _ (Or.inl (by omega)) hO
              rw [← hwz]
              clear hwz o hF hput
              have hF := hG
              have o := hF.own; simp only [World.size_alloc, World.size_drew, World.size_setCell, List.mem_cons, List.not_mem_nil, or_false, forall_eq_or_imp, forall_eq, At, and_true, Nat.zero_add, Nat.reduceAdd, List.set_cons_zero, List.set_cons_succ] at o
              refine bodyPost_ret (v := .tuple #[.agg #[.int .i64 H, .bool true, (.slice au n cu)], .bool false]) ?_ rfl ?_
              · simp [results, Tryd.results98, go_sem, o]
              · exact ⟨_, _, _, _, L, rfl, hOz.gown (Nat.le_of_eq hszz.symm) (by have := HN.out; omega), HL.out, HSm.out, hG.kp⟩
            · have dz : decide (0 ≤ z) = false := decide_eq_false hzz
              have dz2 : decide (z < 0) = true := decide_eq_true (by omega)
              have d6 : decide (6 ≤ (n : Int)) = false := decide_eq_false (by omega)
              have hn5 : n ≤ 5 := by omega
              clear hO hlu
              have hO := GO2.made (S := shGt) 48 (w4.setCell ⟨n6, 2, none⟩ (.slice (some ⟨w4.heap.size, 0, none⟩) 0 0)) w4.heap.size (w4.heap.size + 1) (by simp only [World.size_setCell]; omega)
              have hF4 := (hF.set 2 (.slice (some ⟨w4.heap.size, 0, none⟩) 0 0) (by simp) (by simp <;> omega)).other (.cells #[] 48)
              simp only [World.size_setCell] at hO
              have hs0 : w4.heap.size + 1 ≤ ((w4.setCell ⟨n6, 2, none⟩ (.slice (some ⟨w4.heap.size, 0, none⟩) 0 0)).alloc (.cells #[] 48)).heap.size := by simp only [World.size_setCell, World.size_alloc]; omega
              clear h6
              go_upto_region 13 with (fail)
              obtain ⟨nb, hnb⟩ : ∃ nb, w4.heap.size = nb := ⟨_, rfl⟩
              rw [hnb] at hO hF4 hs0 hs6 ⊢
              clear hF o hnb
              go_loopw [8, 9] (fun s8 s9 wr => ∃ (k : Nat) (put : Bool) (u : Value) (K : List Gt), k ≤ n ∧ s9 = .int .i64 k ∧ s8 = .bool put ∧ K.length ≤ k + 1 ∧ Hid (put = false → K.length ≤ k) ∧ Hid (∀ s ∈ K, SmG s) ∧ nb + 1 ≤ wr.heap.size ∧ GO2 shGt 48 wr nb (nb + 1) u K ∧ Fb w wr [(n6, [.int .i64 H, .bool true, u]), (n1 + 1 + 1, [.int .i64 0, .bool false, .slice none 0 0]), (n1 + 1, [.int .i64 g, .int .i64 c, .slice (some ⟨b5, p5, none⟩) px p1, .int .i64 l2, .slice o2 mx m1]), (n1, [.int .i64 H, .bool true, .slice ao n cap])]) (fun _ s9 _ => n - (intOf s9).toNat)
              case atStart => exact ⟨0, false, _, [], Nat.zero_le _, rfl, rfl, by simp, fun _ => (by simp), fun s h => (by simp at h), hs0, hO, hF4⟩
              case round =>
                clear hF4 hO hs0
                obtain ⟨k, put, u, K, hk, rfl, rfl, hKk, hKp, hKs, hsz, hO, hF⟩ := hrel
                obtain ⟨au, cu, rfl⟩ := hO.sl
                obtain ⟨nk, hnk⟩ : ∃ nk, Hid (K.length = nk) := ⟨_, rfl⟩
                have hnk1 : nk ≤ 100 := by have := hnk.out; omega
                rw [hnk.out] at hO hF
                have o := hF.own; simp only [World.size_alloc, World.size_drew, World.size_setCell, List.mem_cons, List.not_mem_nil, or_false, forall_eq_or_imp, forall_eq, At, and_true, Nat.zero_add, Nat.reduceAdd, List.set_cons_zero, List.set_cons_succ] at o
                by_cases hlt : k < n
                · obtain ⟨b1, q1, rfl⟩ := GLs.adr HV.out (by omega)
                  obtain ⟨s, hs⟩ := get_of hn.out hlt
                  have HSS := Lib.hid (HSm.out s (List.mem_of_getElem? hs))
                  obtain ⟨⟨f, b, lk, P, M⟩, old⟩ := s
                  obtain ⟨a1, m9, c1, a2, m2, c2, ⟨e0, e1, e2, e3, e4, e5⟩, i1, i2⟩ := Gts.at HV.out hs
                  have E6 := Lib.hid (⟨e0, e1, e2, e3, e4, e5⟩ : w.cell? ⟨b1, q1 + k * 6, none⟩ = _ ∧ w.cell? ⟨b1, q1 + k * 6 + 1, none⟩ = _ ∧ w.cell? ⟨b1, q1 + k * 6 + 2, none⟩ = _ ∧ w.cell? ⟨b1, q1 + k * 6 + 3, none⟩ = _ ∧ w.cell? ⟨b1, q1 + k * 6 + 4, none⟩ = _ ∧ w.cell? ⟨b1, q1 + k * 6 + 5, none⟩ = _)
                  have HI := Lib.hid (And.intro i1 i2)
                  clear hs e0 e1 e2 e3 e4 e5 i1 i2
                  go_upto_region 15 with (fail)
                  go_cut [8, 81] (fun s8 s81 wx => s8 = .bool put ∧ ∃ bo : Bool, s81 = .bool bo ∧ Hid (bo = true → put = false) ∧ n6 < nb ∧ nb + 1 ≤ wx.heap.size ∧ GO2 shGt 48 wx nb (nb + 1) (.slice au nk cu) K ∧ Fb w wx [(n6, [.int .i64 H, .bool true, (.slice au nk cu)]), (n1 + 1 + 1, [.int .i64 0, .bool false, .slice none 0 0]), (n1 + 1, [.int .i64 g, .int .i64 c, .slice (some ⟨b5, p5, none⟩) px p1, .int .i64 l2, .slice o2 mx m1]), (n1, [.int .i64 H, .bool true, .slice (some ⟨b1, q1, none⟩) n cap])])
                  case first =>
                    cases put with
                    | true =>
                      first | refine wp_region_new (by kernel_rfl) (by kernel_rfl) ?_ | refine wp_region_lex ?_
                      repeat (any_goals (first | go_big_quiet_step ((fail)) | (refine wpQuiet_step (fun K hK => ?_); go_simp; split <;> (rename_i hg; refine hK _ ?_; clear hK K; simp only [hg, decide_true, decide_false]))))
                      all_goals (refine wpQuiet_nil ?_; intro x)
                      go_wp2
                      go_meet
                      case rel => exact ⟨rfl, false, rfl, fun h => (by cases h), hs6, Nat.le_trans hsz (Below.size (Cl.below ‹_›)), hO.below (Cl.below ‹_›), hF.cl ‹_›⟩
                    | false =>
                      have oc := fun x : Cl _ wr => (Fb.cl hF x).own; simp only [World.size_alloc, World.size_drew, World.size_setCell, List.mem_cons, List.not_mem_nil, or_false, forall_eq_or_imp, forall_eq, At, and_true, Nat.zero_add, Nat.reduceAdd, List.set_cons_zero, List.set_cons_succ] at oc
                      have x0 := fun z : Cl wr.heap.size wr => Cl.old hF z E6.out.1
                      have x1 := fun z : Cl wr.heap.size wr => Cl.old hF z E6.out.2.1
                      obtain ⟨N, hN⟩ : ∃ N, rcmp f b g c = N := ⟨_, rfl⟩
                      have cC := Lib.hid (fun z : Cl wr.heap.size wr => (show Calls Tryd.prog 61 #[.agg #[.int .i64 f, .int .i64 b], .agg #[.int .i64 g, .int .i64 c]] z.W fun e w' => e = .returned (.int .i64 N) ∧ Below z.W.heap.size z.W w' from by have := l1Cmp_any f b g c z.W; rwa [hN] at this))
                      clear hN
                      by_cases h0N : 0 < N
                      · have dN : decide (0 < N) = true := decide_eq_true h0N
                        clear h0N
                        first | refine wp_region_new (by kernel_rfl) (by kernel_rfl) ?_ | refine wp_region_lex ?_
                        repeat (any_goals (first | go_big_quiet_step (((go_at_call 61; exact Calls.cl (cC.out _)))) | (refine wpQuiet_step (fun K hK => ?_); go_simp; split <;> (rename_i hg; refine hK _ ?_; clear hK K; simp only [hg, decide_true, decide_false]))))
                        all_goals (refine wpQuiet_nil ?_; intro x)
                        go_wp2
                        go_meet
                        case rel => exact ⟨rfl, true, rfl, (by first | exact trivial | exact fun _ => trivial | exact fun _ => rfl), hs6, Nat.le_trans hsz (Below.size (Cl.below ‹_›)), hO.below (Cl.below ‹_›), hF.cl ‹_›⟩
                      · have dN : decide (0 < N) = false := decide_eq_false h0N
                        clear h0N
                        first | refine wp_region_new (by kernel_rfl) (by kernel_rfl) ?_ | refine wp_region_lex ?_
                        repeat (any_goals (first | go_big_quiet_step (((go_at_call 61; exact Calls.cl (cC.out _)))) | (refine wpQuiet_step (fun K hK => ?_); go_simp; split <;> (rename_i hg; refine hK _ ?_; clear hK K; simp only [hg, decide_true, decide_false]))))
                        all_goals (refine wpQuiet_nil ?_; intro x)
                        go_wp2
                        go_meet
                        case rel => exact ⟨rfl, false, rfl, fun h => (by cases h), hs6, Nat.le_trans hsz (Below.size (Cl.below ‹_›)), hO.below (Cl.below ‹_›), hF.cl ‹_›⟩
                  case rest =>
                    clear hO hF o hsz
                    obtain ⟨rfl, bo, rfl, hbo, h6b, hsz, hO, hF⟩ := hcut
                    have o := hF.own; simp only [World.size_alloc, World.size_drew, World.size_setCell, List.mem_cons, List.not_mem_nil, or_false, forall_eq_or_imp, forall_eq, At, and_true, Nat.zero_add, Nat.reduceAdd, List.set_cons_zero, List.set_cons_succ] at o
                    go_upto_if 81 with (fail)
                    go_cut [8] (fun s8 wx => ∃ (put' : Bool) (u' : Value) (K' : List Gt), s8 = .bool put' ∧ K'.length ≤ k + 1 ∧ Hid (put' = false → K'.length ≤ k) ∧ Hid (∀ s ∈ K', SmG s) ∧ nb + 1 ≤ wx.heap.size ∧ GO2 shGt 48 wx nb (nb + 1) u' K' ∧ Fb w wx [(n6, [.int .i64 H, .bool true, u']), (n1 + 1 + 1, [.int .i64 0, .bool false, .slice none 0 0]), (n1 + 1, [.int .i64 g, .int .i64 c, .slice (some ⟨b5, p5, none⟩) px p1, .int .i64 l2, .slice o2 mx m1]), (n1, [.int .i64 H, .bool true, .slice (some ⟨b1, q1, none⟩) n cap])])
                    case first =>
                      cases bo with
                      | false =>
                        go_wp2_with fail
                        go_meet
                        case rel => exact ⟨put, _, K, rfl, hKk, hKp, hKs, hsz, hO, hF⟩
                      | true =>
                        have hpf := hbo.out (by trivial)
                        have hKl := hKp.out hpf
                        clear hbo
                        go_upto_region 16 with (fail)
                        refine wp_region_held_drew (S := fun w' => w'.cell? ⟨n1 + 1, 0, none⟩ = some (.int .i64 g) ∧ w'.cell? ⟨n1 + 1, 1, none⟩ = some (.int .i64 c) ∧ w'.cell? ⟨n1 + 1, 2, none⟩ = some (.slice (some ⟨b5, p5, none⟩) px p1) ∧ w'.cell? ⟨n1 + 1, 3, none⟩ = some (.int .i64 l2) ∧ w'.cell? ⟨n1 + 1, 4, none⟩ = some (.slice o2 mx m1)) (by kernel_rfl) ?hs (fun hHeld => ?_)
                        case hs => exact ⟨Fb.get (by repeat (first | with_reducible exact hF | with_reducible apply Fb.drew | with_reducible apply Fb.other)) (List.mem_cons_of_mem _ (List.mem_cons_of_mem _ (List.mem_cons_self ..))) rfl, Fb.get (by repeat (first | with_reducible exact hF | with_reducible apply Fb.drew | with_reducible apply Fb.other)) (List.mem_cons_of_mem _ (List.mem_cons_of_mem _ (List.mem_cons_self ..))) rfl, Fb.get (by repeat (first | with_reducible exact hF | with_reducible apply Fb.drew | with_reducible apply Fb.other)) (List.mem_cons_of_mem _ (List.mem_cons_of_mem _ (List.mem_cons_self ..))) rfl, Fb.get (by repeat (first | with_reducible exact hF | with_reducible apply Fb.drew | with_reducible apply Fb.other)) (List.mem_cons_of_mem _ (List.mem_cons_of_mem _ (List.mem_cons_self ..))) rfl, Fb.get (by repeat (first | with_reducible exact hF | with_reducible apply Fb.drew | with_reducible apply Fb.other)) (List.mem_cons_of_mem _ (List.mem_cons_of_mem _ (List.mem_cons_self ..))) rfl⟩
                        refine wpAnyH_take (i := 0) (oi := _) (v := ?_) (by simp only [List.getElem?_toArray, List.getElem?_cons_succ, List.getElem?_cons_zero]; rfl) (by kernel_rfl) (by kernel_rfl) (by kernel_rfl) (by exact fun _ _ _ h => h) (Or.inl ⟨by rfl, ?hy⟩) (by assumption) ?_
                        case hy => (intro w hSw; (try dsimp only at hSw); go_simp; (try with_reducible rfl))
                        (try simp only [Act.put, List.setIfInBounds_toArray, List.set_cons_zero, List.set_cons_succ])
                        refine wpAnyH_take (i := 2) (oi := _) (v := ?_) (by simp only [List.getElem?_toArray, List.getElem?_cons_succ, List.getElem?_cons_zero]; rfl) (by kernel_rfl) (by kernel_rfl) (by kernel_rfl) (by exact fun _ _ _ h => h) (Or.inl ⟨by rfl, ?hy⟩) (by assumption) ?_
                        case hy => (intro w hSw; (try dsimp only at hSw); go_simp; (try with_reducible rfl))
                        (try simp only [Act.put, List.setIfInBounds_toArray, List.set_cons_zero, List.set_cons_succ])
                        refine wpAnyH_ready (rs := [1, 3]) (by kernel_rfl) (by simp) ?_
                        refine AllReadyH.cons (o := _) (by simp only [List.getElem?_toArray, List.getElem?_cons_succ, List.getElem?_cons_zero]; rfl) (fun KK hK => ?_) (AllReadyH.cons (o := _) (by simp only [List.getElem?_toArray, List.getElem?_cons_succ, List.getElem?_cons_zero]; rfl) (fun KK hK => ?_) AllReadyH.nil)
                        · go_simp
                          refine hK.out _ _ ?hs (fun hHeld => ?_)
                          case hs => ((try dsimp only); exact ⟨Fb.get (by repeat (first | with_reducible exact hF | with_reducible apply Fb.drew | with_reducible apply Fb.other)) (List.mem_cons_of_mem _ (List.mem_cons_of_mem _ (List.mem_cons_self ..))) rfl, Fb.get (by repeat (first | with_reducible exact hF | with_reducible apply Fb.drew | with_reducible apply Fb.other)) (List.mem_cons_of_mem _ (List.mem_cons_of_mem _ (List.mem_cons_self ..))) rfl, Fb.get (by repeat (first | with_reducible exact hF | with_reducible apply Fb.drew | with_reducible apply Fb.other)) (List.mem_cons_of_mem _ (List.mem_cons_of_mem _ (List.mem_cons_self ..))) rfl, Fb.get (by repeat (first | with_reducible exact hF | with_reducible apply Fb.drew | with_reducible apply Fb.other)) (List.mem_cons_of_mem _ (List.mem_cons_of_mem _ (List.mem_cons_self ..))) rfl, Fb.get (by repeat (first | with_reducible exact hF | with_reducible apply Fb.drew | with_reducible apply Fb.other)) (List.mem_cons_of_mem _ (List.mem_cons_of_mem _ (List.mem_cons_self ..))) rfl⟩)
                          clear hK KK
                          (try simp only [Act.put, List.setIfInBounds_toArray, List.set_cons_zero, List.set_cons_succ])
                          refine wpAnyH_ready (rs := [3]) (by kernel_rfl) (by simp) ?_
                          refine AllReadyH.cons (o := _) (by simp only [List.getElem?_toArray, List.getElem?_cons_succ, List.getElem?_cons_zero]; rfl) (fun KK hK => ?_) AllReadyH.nil
                          go_simp
                          (go_at_call 40; go_must (refine (l4Copy_any g c l2 _ _ PX MX _ (It.below HX.out.1 (Fb.kp (W := w) (by repeat (first | with_reducible exact hF | with_reducible apply Fb.drew | with_reducible apply Fb.other)))) (It.below HX.out.2 (Fb.kp (W := w) (by repeat (first | with_reducible exact hF | with_reducible apply Fb.drew | with_reducible apply Fb.other)))) (by have := HXs.out.1; omega) (by have := HXs.out.2; omega)).mono ?_); rintro e wy ⟨pv9, mv9, rfl, y1, y2, hby⟩; obtain ⟨oy1, cy1, rfl, -⟩ := y1.1.1.ex; obtain ⟨oy2, cy2, rfl, -⟩ := y2.1.1.ex; have hlo := hO.lt; have hsy := hby.size; simp only [World.size_drew] at hsy y1 y2; replace hF := Fb.below (by repeat (first | with_reducible exact hF | with_reducible apply Fb.drew | with_reducible apply Fb.other)) hby; replace hO := GO2.below (by repeat (first | with_reducible exact hO | with_reducible apply GO2.drew | with_reducible apply GO2.alloc)) hby; clear hby o; have o := hF.own; simp only [World.size_alloc, World.size_drew, World.size_setCell, List.mem_cons, List.not_mem_nil, or_false, forall_eq_or_imp, forall_eq, At, and_true, Nat.zero_add, Nat.reduceAdd, List.set_cons_zero, List.set_cons_succ] at o)
                          (try go_wp2_with fail)
                          refine hK.out _ _ ?hs (fun hHeld => ?_)
                          case hs => ((try dsimp only); exact ⟨Fb.get (by repeat (first | with_reducible exact hF | with_reducible apply Fb.drew | with_reducible apply Fb.other)) (List.mem_cons_of_mem _ (List.mem_cons_of_mem _ (List.mem_cons_self ..))) rfl, Fb.get (by repeat (first | with_reducible exact hF | with_reducible apply Fb.drew | with_reducible apply Fb.other)) (List.mem_cons_of_mem _ (List.mem_cons_of_mem _ (List.mem_cons_self ..))) rfl, Fb.get (by repeat (first | with_reducible exact hF | with_reducible apply Fb.drew | with_reducible apply Fb.other)) (List.mem_cons_of_mem _ (List.mem_cons_of_mem _ (List.mem_cons_self ..))) rfl, Fb.get (by repeat (first | with_reducible exact hF | with_reducible apply Fb.drew | with_reducible apply Fb.other)) (List.mem_cons_of_mem _ (List.mem_cons_of_mem _ (List.mem_cons_self ..))) rfl, Fb.get (by repeat (first | with_reducible exact hF | with_reducible apply Fb.drew | with_reducible apply Fb.other)) (List.mem_cons_of_mem _ (List.mem_cons_of_mem _ (List.mem_cons_self ..))) rfl⟩)
                          clear hK KK
                          (try simp only [Act.put, List.setIfInBounds_toArray, List.set_cons_zero, List.set_cons_succ])
                          refine wpAnyH_take (i := 4) (oi := _) (v := ?_) (by simp only [List.getElem?_toArray, List.getElem?_cons_succ, List.getElem?_cons_zero]; rfl) (by kernel_rfl) (by kernel_rfl) (by kernel_rfl) (by exact fun _ _ _ h => h) (Or.inl ⟨by rfl, ?hy⟩) (by assumption) ?_
                          case hy => (intro w hSw; (try dsimp only at hSw); go_simp; (try with_reducible rfl))
                          (try simp only [Act.put, List.setIfInBounds_toArray, List.set_cons_zero, List.set_cons_succ])
                          refine wpAnyH_ready (rs := [5]) (by kernel_rfl) (by simp) ?_
                          refine AllReadyH.cons (o := _) (by simp only [List.getElem?_toArray, List.getElem?_cons_succ, List.getElem?_cons_zero]; rfl) (fun KK hK => ?_) AllReadyH.nil
                          go_simp
                          refine hK.out _ _ ?hs (fun hHeld => ?_)
                          case hs => ((try dsimp only); exact ⟨Fb.get (by repeat (first | with_reducible exact hF | with_reducible apply Fb.drew | with_reducible apply Fb.other)) (List.mem_cons_of_mem _ (List.mem_cons_of_mem _ (List.mem_cons_self ..))) rfl, Fb.get (by repeat (first | with_reducible exact hF | with_reducible apply Fb.drew | with_reducible apply Fb.other)) (List.mem_cons_of_mem _ (List.mem_cons_of_mem _ (List.mem_cons_self ..))) rfl, Fb.get (by repeat (first | with_reducible exact hF | with_reducible apply Fb.drew | with_reducible apply Fb.other)) (List.mem_cons_of_mem _ (List.mem_cons_of_mem _ (List.mem_cons_self ..))) rfl, Fb.get (by repeat (first | with_reducible exact hF | with_reducible apply Fb.drew | with_reducible apply Fb.other)) (List.mem_cons_of_mem _ (List.mem_cons_of_mem _ (List.mem_cons_self ..))) rfl, Fb.get (by repeat (first | with_reducible exact hF | with_reducible apply Fb.drew | with_reducible apply Fb.other)) (List.mem_cons_of_mem _ (List.mem_cons_of_mem _ (List.mem_cons_self ..))) rfl⟩)
                          clear hK KK
                          (try simp only [Act.put, List.setIfInBounds_toArray, List.set_cons_zero, List.set_cons_succ])
                          refine wpAnyH_ready (rs := [6]) (by kernel_rfl) (by simp) ?_
                          refine AllReadyH.cons (o := _) (by simp only [List.getElem?_toArray, List.getElem?_cons_succ, List.getElem?_cons_zero]; rfl) (fun KK hK => ?_) AllReadyH.nil
                          (obtain ⟨ds, hOw, hG⟩ := hO; have hlG := hG.1; refine step_app (by rfl) _ _ 42 (by rfl) 48 (.agg #[.int .i64 0, .int .i64 0, .slice none 0 0, .int .i64 0, .slice none 0 0, .bool false]) 6 80 Tryd.underlying42 infoGt rfl (by decide) (by decide) (nb) encGt _ ds rfl (hOw.alloc _) (⟨g, c, l2, .slice oy1 PX.length cy1, .slice oy2 MX.length cy2, false⟩ : GtD) ⟨_, 0, none⟩ 1 rfl rfl (cells_new _ _ _) (by simp [encGt, Value.oneCell']) (by have := hnk.out; omega) (by simp only [World.size_alloc]; omega) ?_)
                          intro v9 wz hO9 hg9 hb9 hf9
                          have hO2 := g2_snoc (s := ((g, c, l2, PX, MX), false)) hG ((Below.refl _ _).alloc (Nat.le_refl _) _) hO9 hg9 hf9 (Sh.below (S := shGt) ⟨⟨rfl, rfl, rfl, rfl⟩, y1.1, y2.1⟩ ((Below.refl _ _).alloc (Nat.le_refl _) _)) (sub2 (fun g h => ⟨by have := y1.2 g h; omega, by have := y1.2 g h; simp only [World.size_alloc]; omega, fun e => by have := y1.2 g h; have := hlo g e; omega⟩) (fun g h => ⟨by have := y2.2 g h; omega, by have := y2.2 g h; simp only [World.size_alloc]; omega, fun e => by have := y2.2 g h; have := hlo g e; omega⟩))
                          have hsz9 := hb9.size
                          simp only [World.size_alloc] at hsz9
                          replace hF := (hF.other (.cells #[.int .i64 g, .int .i64 c, .slice oy1 PX.length cy1, .int .i64 l2, .slice oy2 MX.length cy2, .bool false] 48)).grownQ hg9 (fun g' hg => by have := hOw.ge g' hg; have := HN.out; omega) (fun p hp e => by have := hOw.ge _ e; simp only [List.mem_cons, List.not_mem_nil, or_false] at hp; rcases hp with rfl | rfl | rfl | rfl <;> simp only at this <;> omega)
                          obtain ⟨a9, c9, rfl⟩ := hO2.sl
                          obtain ⟨n9, hn9⟩ : ∃ n9, Hid ((K ++ [((g, c, l2, PX, MX), false)]).length = n9) := ⟨_, rfl⟩
                          rw [hn9.out] at hO2 ⊢
                          clear hg9 hb9 hf9 hO9 hOw hG o hlG
                          have o := hF.own; simp only [World.size_alloc, World.size_drew, World.size_setCell, List.mem_cons, List.not_mem_nil, or_false, forall_eq_or_imp, forall_eq, At, and_true, Nat.zero_add, Nat.reduceAdd, List.set_cons_zero, List.set_cons_succ] at o
                          refine hK.out _ _ ?hs (fun hHeld => ?_)
                          case hs => ((try dsimp only); exact ⟨Fb.get (by repeat (first | with_reducible exact hF | with_reducible apply Fb.drew | with_reducible apply Fb.other)) (List.mem_cons_of_mem _ (List.mem_cons_of_mem _ (List.mem_cons_self ..))) rfl, Fb.get (by repeat (first | with_reducible exact hF | with_reducible apply Fb.drew | with_reducible apply Fb.other)) (List.mem_cons_of_mem _ (List.mem_cons_of_mem _ (List.mem_cons_self ..))) rfl, Fb.get (by repeat (first | with_reducible exact hF | with_reducible apply Fb.drew | with_reducible apply Fb.other)) (List.mem_cons_of_mem _ (List.mem_cons_of_mem _ (List.mem_cons_self ..))) rfl, Fb.get (by repeat (first | with_reducible exact hF | with_reducible apply Fb.drew | with_reducible apply Fb.other)) (List.mem_cons_of_mem _ (List.mem_cons_of_mem _ (List.mem_cons_self ..))) rfl, Fb.get (by repeat (first | with_reducible exact hF | with_reducible apply Fb.drew | with_reducible apply Fb.other)) (List.mem_cons_of_mem _ (List.mem_cons_of_mem _ (List.mem_cons_self ..))) rfl⟩)
                          clear hK KK
                          (try simp only [Act.put, List.setIfInBounds_toArray, List.set_cons_zero, List.set_cons_succ])
                          refine wpAnyH_take (i := 7) (oi := _) (v := ?_) (by simp only [List.getElem?_toArray, List.getElem?_cons_succ, List.getElem?_cons_zero]; rfl) (by kernel_rfl) (by kernel_rfl) (by kernel_rfl) (by exact fun _ _ _ h => h) (Or.inl ⟨by rfl, ?hy⟩) (by assumption) ?_
                          case hy => (intro w hSw; (try dsimp only at hSw); go_simp; (try with_reducible rfl))
                          (try simp only [Act.put, List.setIfInBounds_toArray, List.set_cons_zero, List.set_cons_succ])
                          refine wpAnyH_ready (rs := [8]) (by kernel_rfl) (by simp) ?_
                          refine AllReadyH.cons (o := _) (by simp only [List.getElem?_toArray, List.getElem?_cons_succ, List.getElem?_cons_zero]; rfl) (fun KK hK => ?_) AllReadyH.nil
                          go_simp
                          replace hF := hF.set 2 (.slice a9 n9 c9) (by simp) (by simp <;> omega)
                          have hO := hO2.put (p := ⟨n6, 2, none⟩) (fun e => by have := hO2.ge _ e; dsimp only at this; omega) (by dsimp only; omega) (.slice a9 n9 c9)
                          refine hK.out _ _ ?hs (fun hHeld => ?_)
                          case hs => ((try dsimp only); exact ⟨Fb.get (by repeat (first | with_reducible exact hF | with_reducible apply Fb.drew | with_reducible apply Fb.other)) (List.mem_cons_of_mem _ (List.mem_cons_of_mem _ (List.mem_cons_self ..))) rfl, Fb.get (by repeat (first | with_reducible exact hF | with_reducible apply Fb.drew | with_reducible apply Fb.other)) (List.mem_cons_of_mem _ (List.mem_cons_of_mem _ (List.mem_cons_self ..))) rfl, Fb.get (by repeat (first | with_reducible exact hF | with_reducible apply Fb.drew | with_reducible apply Fb.other)) (List.mem_cons_of_mem _ (List.mem_cons_of_mem _ (List.mem_cons_self ..))) rfl, Fb.get (by repeat (first | with_reducible exact hF | with_reducible apply Fb.drew | with_reducible apply Fb.other)) (List.mem_cons_of_mem _ (List.mem_cons_of_mem _ (List.mem_cons_self ..))) rfl, Fb.get (by repeat (first | with_reducible exact hF | with_reducible apply Fb.drew | with_reducible apply Fb.other)) (List.mem_cons_of_mem _ (List.mem_cons_of_mem _ (List.mem_cons_self ..))) rfl⟩)
                          clear hK KK
                          (try simp only [Act.put, List.setIfInBounds_toArray, List.set_cons_zero, List.set_cons_succ])
                          refine wpAnyH_done (by kernel_rfl) ?_ _
                          clear hO2 o
                          have o := hF.own; simp only [World.size_alloc, World.size_drew, World.size_setCell, List.mem_cons, List.not_mem_nil, or_false, forall_eq_or_imp, forall_eq, At, and_true, Nat.zero_add, Nat.reduceAdd, List.set_cons_zero, List.set_cons_succ] at o
                          go_wp2_with fail
                          go_meet
                          case rel => exact ⟨true, _, K ++ [((g, c, l2, PX, MX), false)], rfl, by simp; omega, fun h => (by cases h), smg_snoc hKs.out HXs.out, by simp only [World.size_setCell]; omega, hO, hF⟩
                        ·
                          go_simp
                          (go_at_call 40; go_must (refine (l4Copy_any g c l2 _ _ PX MX _ (It.below HX.out.1 (Fb.kp (W := w) (by repeat (first | with_reducible exact hF | with_reducible apply Fb.drew | with_reducible apply Fb.other)))) (It.below HX.out.2 (Fb.kp (W := w) (by repeat (first | with_reducible exact hF | with_reducible apply Fb.drew | with_reducible apply Fb.other)))) (by have := HXs.out.1; omega) (by have := HXs.out.2; omega)).mono ?_); rintro e wy ⟨pv9, mv9, rfl, y1, y2, hby⟩; obtain ⟨oy1, cy1, rfl, -⟩ := y1.1.1.ex; obtain ⟨oy2, cy2, rfl, -⟩ := y2.1.1.ex; have hlo := hO.lt; have hsy := hby.size; simp only [World.size_drew] at hsy y1 y2; replace hF := Fb.below (by repeat (first | with_reducible exact hF | with_reducible apply Fb.drew | with_reducible apply Fb.other)) hby; replace hO := GO2.below (by repeat (first | with_reducible exact hO | with_reducible apply GO2.drew | with_reducible apply GO2.alloc)) hby; clear hby o; have o := hF.own; simp only [World.size_alloc, World.size_drew, World.size_setCell, List.mem_cons, List.not_mem_nil, or_false, forall_eq_or_imp, forall_eq, At, and_true, Nat.zero_add, Nat.reduceAdd, List.set_cons_zero, List.set_cons_succ] at o)
                          (try go_wp2_with fail)
                          refine hK.out _ _ ?hs (fun hHeld => ?_)
                          case hs => ((try dsimp only); exact ⟨Fb.get (by repeat (first | with_reducible exact hF | with_reducible apply Fb.drew | with_reducible apply Fb.other)) (List.mem_cons_of_mem _ (List.mem_cons_of_mem _ (List.mem_cons_self ..))) rfl, Fb.get (by repeat (first | with_reducible exact hF | with_reducible apply Fb.drew | with_reducible apply Fb.other)) (List.mem_cons_of_mem _ (List.mem_cons_of_mem _ (List.mem_cons_self ..))) rfl, Fb.get (by repeat (first | with_reducible exact hF | with_reducible apply Fb.drew | with_reducible apply Fb.other)) (List.mem_cons_of_mem _ (List.mem_cons_of_mem _ (List.mem_cons_self ..))) rfl, Fb.get (by repeat (first | with_reducible exact hF | with_reducible apply Fb.drew | with_reducible apply Fb.other)) (List.mem_cons_of_mem _ (List.mem_cons_of_mem _ (List.mem_cons_self ..))) rfl, Fb.get (by repeat (first | with_reducible exact hF | with_reducible apply Fb.drew | with_reducible apply Fb.other)) (List.mem_cons_of_mem _ (List.mem_cons_of_mem _ (List.mem_cons_self ..))) rfl⟩)
                          clear hK KK
                          (try simp only [Act.put, List.setIfInBounds_toArray, List.set_cons_zero, List.set_cons_succ])
                          refine wpAnyH_take (i := 4) (oi := _) (v := ?_) (by simp only [List.getElem?_toArray, List.getElem?_cons_succ, List.getElem?_cons_zero]; rfl) (by kernel_rfl) (by kernel_rfl) (by kernel_rfl) (by exact fun _ _ _ h => h) (Or.inl ⟨by rfl, ?hy⟩) (by assumption) ?_
                          case hy => (intro w hSw; (try dsimp only at hSw); go_simp; (try with_reducible rfl))
                          (try simp only [Act.put, List.setIfInBounds_toArray, List.set_cons_zero, List.set_cons_succ])
                          refine wpAnyH_ready (rs := [1, 5]) (by kernel_rfl) (by simp) ?_
                          refine AllReadyH.cons (o := _) (by simp only [List.getElem?_toArray, List.getElem?_cons_succ, List.getElem?_cons_zero]; rfl) (fun KK hK => ?_) (AllReadyH.cons (o := _) (by simp only [List.getElem?_toArray, List.getElem?_cons_succ, List.getElem?_cons_zero]; rfl) (fun KK hK => ?_) AllReadyH.nil)
                          · go_simp
                            refine hK.out _ _ ?hs (fun hHeld => ?_)
                            case hs => ((try dsimp only); exact ⟨Fb.get (by repeat (first | with_reducible exact hF | with_reducible apply Fb.drew | with_reducible apply Fb.other)) (List.mem_cons_of_mem _ (List.mem_cons_of_mem _ (List.mem_cons_self ..))) rfl, Fb.get (by repeat (first | with_reducible exact hF | with_reducible apply Fb.drew | with_reducible apply Fb.other)) (List.mem_cons_of_mem _ (List.mem_cons_of_mem _ (List.mem_cons_self ..))) rfl, Fb.get (by repeat (first | with_reducible exact hF | with_reducible apply Fb.drew | with_reducible apply Fb.other)) (List.mem_cons_of_mem _ (List.mem_cons_of_mem _ (List.mem_cons_self ..))) rfl, Fb.get (by repeat (first | with_reducible exact hF | with_reducible apply Fb.drew | with_reducible apply Fb.other)) (List.mem_cons_of_mem _ (List.mem_cons_of_mem _ (List.mem_cons_self ..))) rfl, Fb.get (by repeat (first | with_reducible exact hF | with_reducible apply Fb.drew | with_reducible apply Fb.other)) (List.mem_cons_of_mem _ (List.mem_cons_of_mem _ (List.mem_cons_self ..))) rfl⟩)
                            clear hK KK
                            (try simp only [Act.put, List.setIfInBounds_toArray, List.set_cons_zero, List.set_cons_succ])
                            refine wpAnyH_ready (rs := [5]) (by kernel_rfl) (by simp) ?_
                            refine AllReadyH.cons (o := _) (by simp only [List.getElem?_toArray, List.getElem?_cons_succ, List.getElem?_cons_zero]; rfl) (fun KK hK => ?_) AllReadyH.nil
                            go_simp
                            refine hK.out _ _ ?hs (fun hHeld => ?_)
                            case hs => ((try dsimp only); exact ⟨Fb.get (by repeat (first | with_reducible exact hF | with_reducible apply Fb.drew | with_reducible apply Fb.other)) (List.mem_cons_of_mem _ (List.mem_cons_of_mem _ (List.mem_cons_self ..))) rfl, Fb.get (by repeat (first | with_reducible exact hF | with_reducible apply Fb.drew | with_reducible apply Fb.other)) (List.mem_cons_of_mem _ (List.mem_cons_of_mem _ (List.mem_cons_self ..))) rfl, Fb.get (by repeat (first | with_reducible exact hF | with_reducible apply Fb.drew | with_reducible apply Fb.other)) (List.mem_cons_of_mem _ (List.mem_cons_of_mem _ (List.mem_cons_self ..))) rfl, Fb.get (by repeat (first | with_reducible exact hF | with_reducible apply Fb.drew | with_reducible apply Fb.other)) (List.mem_cons_of_mem _ (List.mem_cons_of_mem _ (List.mem_cons_self ..))) rfl, Fb.get (by repeat (first | with_reducible exact hF | with_reducible apply Fb.drew | with_reducible apply Fb.other)) (List.mem_cons_of_mem _ (List.mem_cons_of_mem _ (List.mem_cons_self ..))) rfl⟩)
                            clear hK KK
                            (try simp only [Act.put, List.setIfInBounds_toArray, List.set_cons_zero, List.set_cons_succ])
                            refine wpAnyH_ready (rs := [6]) (by kernel_rfl) (by simp) ?_
                            refine AllReadyH.cons (o := _) (by simp only [List.getElem?_toArray, List.getElem?_cons_succ, List.getElem?_cons_zero]; rfl) (fun KK hK => ?_) AllReadyH.nil
                            (obtain ⟨ds, hOw, hG⟩ := hO; have hlG := hG.1; refine step_app (by rfl) _ _ 42 (by rfl) 48 (.agg #[.int .i64 0, .int .i64 0, .slice none 0 0, .int .i64 0, .slice none 0 0, .bool false]) 6 80 Tryd.underlying42 infoGt rfl (by decide) (by decide) (nb) encGt _ ds rfl (hOw.alloc _) (⟨g, c, l2, .slice oy1 PX.length cy1, .slice oy2 MX.length cy2, false⟩ : GtD) ⟨_, 0, none⟩ 1 rfl rfl (cells_new _ _ _) (by simp [encGt, Value.oneCell']) (by have := hnk.out; omega) (by simp only [World.size_alloc]; omega) ?_)
                            intro v9 wz hO9 hg9 hb9 hf9
                            have hO2 := g2_snoc (s := ((g, c, l2, PX, MX), false)) hG ((Below.refl _ _).alloc (Nat.le_refl _) _) hO9 hg9 hf9 (Sh.below (S := shGt) ⟨⟨rfl, rfl, rfl, rfl⟩, y1.1, y2.1⟩ ((Below.refl _ _).alloc (Nat.le_refl _) _)) (sub2 (fun g h => ⟨by have := y1.2 g h; omega, by have := y1.2 g h; simp only [World.size_alloc]; omega, fun e => by have := y1.2 g h; have := hlo g e; omega⟩) (fun g h => ⟨by have := y2.2 g h; omega, by have := y2.2 g h; simp only [World.size_alloc]; omega, fun e => by have := y2.2 g h; have := hlo g e; omega⟩))
                            have hsz9 := hb9.size
                            simp only [World.size_alloc] at hsz9
                            replace hF := (hF.other (.cells #[.int .i64 g, .int .i64 c, .slice oy1 PX.length cy1, .int .i64 l2, .slice oy2 MX.length cy2, .bool false] 48)).grownQ hg9 (fun g' hg => by have := hOw.ge g' hg; have := HN.out; omega) (fun p hp e => by have := hOw.ge _ e; simp only [List.mem_cons, List.not_mem_nil, or_false] at hp; rcases hp with rfl | rfl | rfl | rfl <;> simp only at this <;> omega)
                            obtain ⟨a9, c9, rfl⟩ := hO2.sl
                            obtain ⟨n9, hn9⟩ : ∃ n9, Hid ((K ++ [((g, c, l2, PX, MX), false)]).length = n9) := ⟨_, rfl⟩
                            rw [hn9.out] at hO2 ⊢
                            clear hg9 hb9 hf9 hO9 hOw hG o hlG
                            have o := hF.own; simp only [World.size_alloc, World.size_drew, World.size_setCell, List.mem_cons, List.not_mem_nil, or_false, forall_eq_or_imp, forall_eq, At, and_true, Nat.zero_add, Nat.reduceAdd, List.set_cons_zero, List.set_cons_succ] at o
                            refine hK.out _ _ ?hs (fun hHeld => ?_)
                            case hs => ((try dsimp only); exact ⟨Fb.get (by repeat (first | with_reducible exact hF | with_reducible apply Fb.drew | with_reducible apply Fb.other)) (List.mem_cons_of_mem _ (List.mem_cons_of_mem _ (List.mem_cons_self ..))) rfl, Fb.get (by repeat (first | with_reducible exact hF | with_reducible apply Fb.drew | with_reducible apply Fb.other)) (List.mem_cons_of_mem _ (List.mem_cons_of_mem _ (List.mem_cons_self ..))) rfl, Fb.get (by repeat (first | with_reducible exact hF | with_reducible apply Fb.drew | with_reducible apply Fb.other)) (List.mem_cons_of_mem _ (List.mem_cons_of_mem _ (List.mem_cons_self ..))) rfl, Fb.get (by repeat (first | with_reducible exact hF | with_reducible apply Fb.drew | with_reducible apply Fb.other)) (List.mem_cons_of_mem _ (List.mem_cons_of_mem _ (List.mem_cons_self ..))) rfl, Fb.get (by repeat (first | with_reducible exact hF | with_reducible apply Fb.drew | with_reducible apply Fb.other)) (List.mem_cons_of_mem _ (List.mem_cons_of_mem _ (List.mem_cons_self ..))) rfl⟩)
                            clear hK KK
                            (try simp only [Act.put, List.setIfInBounds_toArray, List.set_cons_zero, List.set_cons_succ])
                            refine wpAnyH_take (i := 7) (oi := _) (v := ?_) (by simp only [List.getElem?_toArray, List.getElem?_cons_succ, List.getElem?_cons_zero]; rfl) (by kernel_rfl) (by kernel_rfl) (by kernel_rfl) (by exact fun _ _ _ h => h) (Or.inl ⟨by rfl, ?hy⟩) (by assumption) ?_
                            case hy => (intro w hSw; (try dsimp only at hSw); go_simp; (try with_reducible rfl))
                            (try simp only [Act.put, List.setIfInBounds_toArray, List.set_cons_zero, List.set_cons_succ])
                            refine wpAnyH_ready (rs := [8]) (by kernel_rfl) (by simp) ?_
                            refine AllReadyH.cons (o := _) (by simp only [List.getElem?_toArray, List.getElem?_cons_succ, List.getElem?_cons_zero]; rfl) (fun KK hK => ?_) AllReadyH.nil
                            go_simp
                            replace hF := hF.set 2 (.slice a9 n9 c9) (by simp) (by simp <;> omega)
                            have hO := hO2.put (p := ⟨n6, 2, none⟩) (fun e => by have := hO2.ge _ e; dsimp only at this; omega) (by dsimp only; omega) (.slice a9 n9 c9)
                            refine hK.out _ _ ?hs (fun hHeld => ?_)
                            case hs => ((try dsimp only); exact ⟨Fb.get (by repeat (first | with_reducible exact hF | with_reducible apply Fb.drew | with_reducible apply Fb.other)) (List.mem_cons_of_mem _ (List.mem_cons_of_mem _ (List.mem_cons_self ..))) rfl, Fb.get (by repeat (first | with_reducible exact hF | with_reducible apply Fb.drew | with_reducible apply Fb.other)) (List.mem_cons_of_mem _ (List.mem_cons_of_mem _ (List.mem_cons_self ..))) rfl, Fb.get (by repeat (first | with_reducible exact hF | with_reducible apply Fb.drew | with_reducible apply Fb.other)) (List.mem_cons_of_mem _ (List.mem_cons_of_mem _ (List.mem_cons_self ..))) rfl, Fb.get (by repeat (first | with_reducible exact hF | with_reducible apply Fb.drew | with_reducible apply Fb.other)) (List.mem_cons_of_mem _ (List.mem_cons_of_mem _ (List.mem_cons_self ..))) rfl, Fb.get (by repeat (first | with_reducible exact hF | with_reducible apply Fb.drew | with_reducible apply Fb.other)) (List.mem_cons_of_mem _ (List.mem_cons_of_mem _ (List.mem_cons_self ..))) rfl⟩)
                            clear hK KK
                            (try simp only [Act.put, List.setIfInBounds_toArray, List.set_cons_zero, List.set_cons_succ])
                            refine wpAnyH_done (by kernel_rfl) ?_ _
                            clear hO2 o
                            have o := hF.own; simp only [World.size_alloc, World.size_drew, World.size_setCell, List.mem_cons, List.not_mem_nil, or_false, forall_eq_or_imp, forall_eq, At, and_true, Nat.zero_add, Nat.reduceAdd, List.set_cons_zero, List.set_cons_succ] at o
                            go_wp2_with fail
                            go_meet
                            case rel => exact ⟨true, _, K ++ [((g, c, l2, PX, MX), false)], rfl, by simp; omega, fun h => (by cases h), smg_snoc hKs.out HXs.out, by simp only [World.size_setCell]; omega, hO, hF⟩
                          · go_simp
                            refine hK.out _ _ ?hs (fun hHeld => ?_)
                            case hs => ((try dsimp only); exact ⟨Fb.get (by repeat (first | with_reducible exact hF | with_reducible apply Fb.drew | with_reducible apply Fb.other)) (List.mem_cons_of_mem _ (List.mem_cons_of_mem _ (List.mem_cons_self ..))) rfl, Fb.get (by repeat (first | with_reducible exact hF | with_reducible apply Fb.drew | with_reducible apply Fb.other)) (List.mem_cons_of_mem _ (List.mem_cons_of_mem _ (List.mem_cons_self ..))) rfl, Fb.get (by repeat (first | with_reducible exact hF | with_reducible apply Fb.drew | with_reducible apply Fb.other)) (List.mem_cons_of_mem _ (List.mem_cons_of_mem _ (List.mem_cons_self ..))) rfl, Fb.get (by repeat (first | with_reducible exact hF | with_reducible apply Fb.drew | with_reducible apply Fb.other)) (List.mem_cons_of_mem _ (List.mem_cons_of_mem _ (List.mem_cons_self ..))) rfl, Fb.get (by repeat (first | with_reducible exact hF | with_reducible apply Fb.drew | with_reducible apply Fb.other)) (List.mem_cons_of_mem _ (List.mem_cons_of_mem _ (List.mem_cons_self ..))) rfl⟩)
                            clear hK KK
                            (try simp only [Act.put, List.setIfInBounds_toArray, List.set_cons_zero, List.set_cons_succ])
                            refine wpAnyH_ready (rs := [1]) (by kernel_rfl) (by simp) ?_
                            refine AllReadyH.cons (o := _) (by simp only [List.getElem?_toArray, List.getElem?_cons_succ, List.getElem?_cons_zero]; rfl) (fun KK hK => ?_) AllReadyH.nil
                            go_simp
                            refine hK.out _ _ ?hs (fun hHeld => ?_)
                            case hs => ((try dsimp only); exact ⟨Fb.get (by repeat (first | with_reducible exact hF | with_reducible apply Fb.drew | with_reducible apply Fb.other)) (List.mem_cons_of_mem _ (List.mem_cons_of_mem _ (List.mem_cons_self ..))) rfl, Fb.get (by repeat (first | with_reducible exact hF | with_reducible apply Fb.drew | with_reducible apply Fb.other)) (List.mem_cons_of_mem _ (List.mem_cons_of_mem _ (List.mem_cons_self ..))) rfl, Fb.get (by repeat (first | with_reducible exact hF | with_reducible apply Fb.drew | with_reducible apply Fb.other)) (List.mem_cons_of_mem _ (List.mem_cons_of_mem _ (List.mem_cons_self ..))) rfl, Fb.get (by repeat (first | with_reducible exact hF | with_reducible apply Fb.drew | with_reducible apply Fb.other)) (List.mem_cons_of_mem _ (List.mem_cons_of_mem _ (List.mem_cons_self ..))) rfl, Fb.get (by repeat (first | with_reducible exact hF | with_reducible apply Fb.drew | with_reducible apply Fb.other)) (List.mem_cons_of_mem _ (List.mem_cons_of_mem _ (List.mem_cons_self ..))) rfl⟩)
                            clear hK KK
                            (try simp only [Act.put, List.setIfInBounds_toArray, List.set_cons_zero, List.set_cons_succ])
                            refine wpAnyH_ready (rs := [6]) (by kernel_rfl) (by simp) ?_
                            refine AllReadyH.cons (o := _) (by simp only [List.getElem?_toArray, List.getElem?_cons_succ, List.getElem?_cons_zero]; rfl) (fun KK hK => ?_) AllReadyH.nil
                            (obtain ⟨ds, hOw, hG⟩ := hO; have hlG := hG.1; refine step_app (by rfl) _ _ 42 (by rfl) 48 (.agg #[.int .i64 0, .int .i64 0, .slice none 0 0, .int .i64 0, .slice none 0 0, .bool false]) 6 80 Tryd.underlying42 infoGt rfl (by decide) (by decide) (nb) encGt _ ds rfl (hOw.alloc _) (⟨g, c, l2, .slice oy1 PX.length cy1, .slice oy2 MX.length cy2, false⟩ : GtD) ⟨_, 0, none⟩ 1 rfl rfl (cells_new _ _ _) (by simp [encGt, Value.oneCell']) (by have := hnk.out; omega) (by simp only [World.size_alloc]; omega) ?_)
                            intro v9 wz hO9 hg9 hb9 hf9
                            have hO2 := g2_snoc (s := ((g, c, l2, PX, MX), false)) hG ((Below.refl _ _).alloc (Nat.le_refl _) _) hO9 hg9 hf9 (Sh.below (S := shGt) ⟨⟨rfl, rfl, rfl, rfl⟩, y1.1, y2.1⟩ ((Below.refl _ _).alloc (Nat.le_refl _) _)) (sub2 (fun g h => ⟨by have := y1.2 g h; omega, by have := y1.2 g h; simp only [World.size_alloc]; omega, fun e => by have := y1.2 g h; have := hlo g e; omega⟩) (fun g h => ⟨by have := y2.2 g h; omega, by have := y2.2 g h; simp only [World.size_alloc]; omega, fun e => by have := y2.2 g h; have := hlo g e; omega⟩))
                            have hsz9 := hb9.size
                            simp only [World.size_alloc] at hsz9
                            replace hF := (hF.other (.cells #[.int .i64 g, .int .i64 c, .slice oy1 PX.length cy1, .int .i64 l2, .slice oy2 MX.length cy2, .bool false] 48)).grownQ hg9 (fun g' hg => by have := hOw.ge g' hg; have := HN.out; omega) (fun p hp e => by have := hOw.ge _ e; simp only [List.mem_cons, List.not_mem_nil, or_false] at hp; rcases hp with rfl | rfl | rfl | rfl <;> simp only at this <;> omega)
                            obtain ⟨a9, c9, rfl⟩ := hO2.sl
                            obtain ⟨n9, hn9⟩ : ∃ n9, Hid ((K ++ [((g, c, l2, PX, MX), false)]).length = n9) := ⟨_, rfl⟩
                            rw [hn9.out] at hO2 ⊢
                            clear hg9 hb9 hf9 hO9 hOw hG o hlG
                            have o := hF.own; simp only [World.size_alloc, World.size_drew, World.size_setCell, List.mem_cons, List.not_mem_nil, or_false, forall_eq_or_imp, forall_eq, At, and_true, Nat.zero_add, Nat.reduceAdd, List.set_cons_zero, List.set_cons_succ] at o
                            refine hK.out _ _ ?hs (fun hHeld => ?_)
                            case hs => ((try dsimp only); exact ⟨Fb.get (by repeat (first | with_reducible exact hF | with_reducible apply Fb.drew | with_reducible apply Fb.other)) (List.mem_cons_of_mem _ (List.mem_cons_of_mem _ (List.mem_cons_self ..))) rfl, Fb.get (by repeat (first | with_reducible exact hF | with_reducible apply Fb.drew | with_reducible apply Fb.other)) (List.mem_cons_of_mem _ (List.mem_cons_of_mem _ (List.mem_cons_self ..))) rfl, Fb.get (by repeat (first | with_reducible exact hF | with_reducible apply Fb.drew | with_reducible apply Fb.other)) (List.mem_cons_of_mem _ (List.mem_cons_of_mem _ (List.mem_cons_self ..))) rfl, Fb.get (by repeat (first | with_reducible exact hF | with_reducible apply Fb.drew | with_reducible apply Fb.other)) (List.mem_cons_of_mem _ (List.mem_cons_of_mem _ (List.mem_cons_self ..))) rfl, Fb.get (by repeat (first | with_reducible exact hF | with_reducible apply Fb.drew | with_reducible apply Fb.other)) (List.mem_cons_of_mem _ (List.mem_cons_of_mem _ (List.mem_cons_self ..))) rfl⟩)
                            clear hK KK
                            (try simp only [Act.put, List.setIfInBounds_toArray, List.set_cons_zero, List.set_cons_succ])
                            refine wpAnyH_take (i := 7) (oi := _) (v := ?_) (by simp only [List.getElem?_toArray, List.getElem?_cons_succ, List.getElem?_cons_zero]; rfl) (by kernel_rfl) (by kernel_rfl) (by kernel_rfl) (by exact fun _ _ _ h => h) (Or.inl ⟨by rfl, ?hy⟩) (by assumption) ?_
                            case hy => (intro w hSw; (try dsimp only at hSw); go_simp; (try with_reducible rfl))
                            (try simp only [Act.put, List.setIfInBounds_toArray, List.set_cons_zero, List.set_cons_succ])
                            refine wpAnyH_ready (rs := [8]) (by kernel_rfl) (by simp) ?_
                            refine AllReadyH.cons (o := _) (by simp only [List.getElem?_toArray, List.getElem?_cons_succ, List.getElem?_cons_zero]; rfl) (fun KK hK => ?_) AllReadyH.nil
                            go_simp
                            replace hF := hF.set 2 (.slice a9 n9 c9) (by simp) (by simp <;> omega)
                            have hO := hO2.put (p := ⟨n6, 2, none⟩) (fun e => by have := hO2.ge _ e; dsimp only at this; omega) (by dsimp only; omega) (.slice a9 n9 c9)
                            refine hK.out _ _ ?hs (fun hHeld => ?_)
                            case hs => ((try dsimp only); exact ⟨Fb.get (by repeat (first | with_reducible exact hF | with_reducible apply Fb.drew | with_reducible apply Fb.other)) (List.mem_cons_of_mem _ (List.mem_cons_of_mem _ (List.mem_cons_self ..))) rfl, Fb.get (by repeat (first | with_reducible exact hF | with_reducible apply Fb.drew | with_reducible apply Fb.other)) (List.mem_cons_of_mem _ (List.mem_cons_of_mem _ (List.mem_cons_self ..))) rfl, Fb.get (by repeat (first | with_reducible exact hF | with_reducible apply Fb.drew | with_reducible apply Fb.other)) (List.mem_cons_of_mem _ (List.mem_cons_of_mem _ (List.mem_cons_self ..))) rfl, Fb.get (by repeat (first | with_reducible exact hF | with_reducible apply Fb.drew | with_reducible apply Fb.other)) (List.mem_cons_of_mem _ (List.mem_cons_of_mem _ (List.mem_cons_self ..))) rfl, Fb.get (by repeat (first | with_reducible exact hF | with_reducible apply Fb.drew | with_reducible apply Fb.other)) (List.mem_cons_of_mem _ (List.mem_cons_of_mem _ (List.mem_cons_self ..))) rfl⟩)
                            clear hK KK
                            (try simp only [Act.put, List.setIfInBounds_toArray, List.set_cons_zero, List.set_cons_succ])
                            refine wpAnyH_done (by kernel_rfl) ?_ _
                            clear hO2 o
                            have o := hF.own; simp only [World.size_alloc, World.size_drew, World.size_setCell, List.mem_cons, List.not_mem_nil, or_false, forall_eq_or_imp, forall_eq, At, and_true, Nat.zero_add, Nat.reduceAdd, List.set_cons_zero, List.set_cons_succ] at o
                            go_wp2_with fail
                            go_meet
                            case rel => exact ⟨true, _, K ++ [((g, c, l2, PX, MX), false)], rfl, by simp; omega, fun h => (by cases h), smg_snoc hKs.out HXs.out, by simp only [World.size_setCell]; omega, hO, hF⟩
                    case rest =>
                      clear hO hF o hsz hbo hKk hKp hKs hnk hnk1
                      obtain ⟨put, u, K, rfl, hKk, hKp, hKs, hsz, hO, hF⟩ := hcut
                      obtain ⟨au, cu, rfl⟩ := hO.sl
                      obtain ⟨nk, hnk⟩ : ∃ nk, Hid (K.length = nk) := ⟨_, rfl⟩
                      have hnk1 : nk ≤ 100 := by have := hnk.out; omega
                      rw [hnk.out] at hO hF
                      have x0 := hF.old E6.out.1
                      have x1 := hF.old E6.out.2.1
                      have x2 := hF.old E6.out.2.2.1
                      have x3 := hF.old E6.out.2.2.2.1
                      have x4 := hF.old E6.out.2.2.2.2.1
                      have x5 := hF.old E6.out.2.2.2.2.2
                      have o := hF.own; simp only [World.size_alloc, World.size_drew, World.size_setCell, List.mem_cons, List.not_mem_nil, or_false, forall_eq_or_imp, forall_eq, At, and_true, Nat.zero_add, Nat.reduceAdd, List.set_cons_zero, List.set_cons_succ] at o
                      go_upto_region 18 with (fail)
                      refine wp_region_held_drew (S := fun w' => w'.cell? ⟨b1, q1 + k * 6, none⟩ = some (.int .i64 f) ∧ w'.cell? ⟨b1, q1 + k * 6 + 1, none⟩ = some (.int .i64 b) ∧ w'.cell? ⟨b1, q1 + k * 6 + 2, none⟩ = some (.slice a1 m9 c1) ∧ w'.cell? ⟨b1, q1 + k * 6 + 3, none⟩ = some (.int .i64 lk) ∧ w'.cell? ⟨b1, q1 + k * 6 + 4, none⟩ = some (.slice a2 m2 c2) ∧ w'.cell? ⟨b1, q1 + k * 6 + 5, none⟩ = some (.bool old) ∧ w'.cell? ⟨n1, 2, none⟩ = some (.slice (some ⟨b1, q1, none⟩) n cap)) (by kernel_rfl) ?hs (fun hHeld => ?_)
                      case hs => exact ⟨Fb.old (by repeat (first | with_reducible exact hF | with_reducible apply Fb.drew | with_reducible apply Fb.other)) E6.out.1, Fb.old (by repeat (first | with_reducible exact hF | with_reducible apply Fb.drew | with_reducible apply Fb.other)) E6.out.2.1, Fb.old (by repeat (first | with_reducible exact hF | with_reducible apply Fb.drew | with_reducible apply Fb.other)) E6.out.2.2.1, Fb.old (by repeat (first | with_reducible exact hF | with_reducible apply Fb.drew | with_reducible apply Fb.other)) E6.out.2.2.2.1, Fb.old (by repeat (first | with_reducible exact hF | with_reducible apply Fb.drew | with_reducible apply Fb.other)) E6.out.2.2.2.2.1, Fb.old (by repeat (first | with_reducible exact hF | with_reducible apply Fb.drew | with_reducible apply Fb.other)) E6.out.2.2.2.2.2, Fb.get (by repeat (first | with_reducible exact hF | with_reducible apply Fb.drew | with_reducible apply Fb.other)) (List.mem_cons_of_mem _ (List.mem_cons_of_mem _ (List.mem_cons_of_mem _ (List.mem_cons_self ..)))) rfl⟩
                      refine wpAnyH_take (i := 0) (oi := _) (v := ?_) (by simp only [List.getElem?_toArray, List.getElem?_cons_succ, List.getElem?_cons_zero]; rfl) (by kernel_rfl) (by kernel_rfl) (by kernel_rfl) (by exact fun _ _ _ h => h) (Or.inl ⟨by rfl, ?hy⟩) (by assumption) ?_
                      case hy => (intro w hSw; (try dsimp only at hSw); go_simp; (try with_reducible rfl))
                      (try simp only [Act.put, List.setIfInBounds_toArray, List.set_cons_zero, List.set_cons_succ])
                      refine wpAnyH_take (i := 2) (oi := _) (v := ?_) (by simp only [List.getElem?_toArray, List.getElem?_cons_succ, List.getElem?_cons_zero]; rfl) (by kernel_rfl) (by kernel_rfl) (by kernel_rfl) (by exact fun _ _ _ h => h) (Or.inl ⟨by rfl, ?hy⟩) (by assumption) ?_
                      case hy => (intro w hSw; (try dsimp only at hSw); go_simp; (try with_reducible rfl))
                      (try simp only [Act.put, List.setIfInBounds_toArray, List.set_cons_zero, List.set_cons_succ])
                      refine wpAnyH_take (i := 3) (oi := _) (v := ?_) (by simp only [List.getElem?_toArray, List.getElem?_cons_succ, List.getElem?_cons_zero]; rfl) (by kernel_rfl) (by kernel_rfl) (by kernel_rfl) (by exact fun _ _ _ h => h) (Or.inl ⟨by rfl, ?hy⟩) (by assumption) ?_
                      case hy => (intro w hSw; (try dsimp only at hSw); go_simp; (try with_reducible rfl))
                      (try simp only [Act.put, List.setIfInBounds_toArray, List.set_cons_zero, List.set_cons_succ])
                      refine wpAnyH_take (i := 4) (oi := _) (v := ?_) (by simp only [List.getElem?_toArray, List.getElem?_cons_succ, List.getElem?_cons_zero]; rfl) (by kernel_rfl) (by kernel_rfl) (by kernel_rfl) (by exact fun _ _ _ h => h) (Or.inl ⟨by rfl, ?hy⟩) (by assumption) ?_
                      case hy => (intro w hSw; (try dsimp only at hSw); go_simp; (try with_reducible rfl))
                      (try simp only [Act.put, List.setIfInBounds_toArray, List.set_cons_zero, List.set_cons_succ])
                      refine wpAnyH_take (i := 5) (oi := _) (v := ?_) (by simp only [List.getElem?_toArray, List.getElem?_cons_succ, List.getElem?_cons_zero]; rfl) (by kernel_rfl) (by kernel_rfl) (by kernel_rfl) (by exact fun _ _ _ h => h) (Or.inl ⟨by rfl, ?hy⟩) (by assumption) ?_
                      case hy => (intro w hSw; (try dsimp only at hSw); go_simp; (try with_reducible rfl))
                      (try simp only [Act.put, List.setIfInBounds_toArray, List.set_cons_zero, List.set_cons_succ])
                      refine wpAnyH_take (i := 6) (oi := _) (v := ?_) (by simp only [List.getElem?_toArray, List.getElem?_cons_succ, List.getElem?_cons_zero]; rfl) (by kernel_rfl) (by kernel_rfl) (by kernel_rfl) (by exact fun _ _ _ h => h) (Or.inl ⟨by rfl, ?hy⟩) (by assumption) ?_
                      case hy => (intro w hSw; (try dsimp only at hSw); go_simp; (try with_reducible rfl))
                      (try simp only [Act.put, List.setIfInBounds_toArray, List.set_cons_zero, List.set_cons_succ])
                      refine wpAnyH_take (i := 7) (oi := _) (v := ?_) (by simp only [List.getElem?_toArray, List.getElem?_cons_succ, List.getElem?_cons_zero]; rfl) (by kernel_rfl) (by kernel_rfl) (by kernel_rfl) (by exact fun _ _ _ h => h) (Or.inl ⟨by rfl, ?hy⟩) (by assumption) ?_
                      case hy => (intro w hSw; (try dsimp only at hSw); go_simp; (try with_reducible rfl))
                      (try simp only [Act.put, List.setIfInBounds_toArray, List.set_cons_zero, List.set_cons_succ])
                      refine wpAnyH_take (i := 9) (oi := _) (v := ?_) (by simp only [List.getElem?_toArray, List.getElem?_cons_succ, List.getElem?_cons_zero]; rfl) (by kernel_rfl) (by kernel_rfl) (by kernel_rfl) (by exact fun _ _ _ h => h) (Or.inl ⟨by rfl, ?hy⟩) (by assumption) ?_
                      case hy => (intro w hSw; (try dsimp only at hSw); go_simp; (try with_reducible rfl))
                      (try simp only [Act.put, List.setIfInBounds_toArray, List.set_cons_zero, List.set_cons_succ])
                      refine wpAnyH_take (i := 10) (oi := _) (v := ?_) (by simp only [List.getElem?_toArray, List.getElem?_cons_succ, List.getElem?_cons_zero]; rfl) (by kernel_rfl) (by kernel_rfl) (by kernel_rfl) (by exact fun _ _ _ h => h) (Or.inl ⟨by rfl, ?hy⟩) (by assumption) ?_
                      case hy => (intro w hSw; (try dsimp only at hSw); go_simp; (try with_reducible rfl))
                      (try simp only [Act.put, List.setIfInBounds_toArray, List.set_cons_zero, List.set_cons_succ])
                      refine wpAnyH_take (i := 11) (oi := _) (v := ?_) (by simp only [List.getElem?_toArray, List.getElem?_cons_succ, List.getElem?_cons_zero]; rfl) (by kernel_rfl) (by kernel_rfl) (by kernel_rfl) (by exact fun _ _ _ h => h) (Or.inl ⟨by rfl, ?hy⟩) (by assumption) ?_
                      case hy => (intro w hSw; (try dsimp only at hSw); go_simp; (try with_reducible rfl))
                      (try simp only [Act.put, List.setIfInBounds_toArray, List.set_cons_zero, List.set_cons_succ])
                      refine wpAnyH_take (i := 12) (oi := _) (v := ?_) (by simp only [List.getElem?_toArray, List.getElem?_cons_succ, List.getElem?_cons_zero]; rfl) (by kernel_rfl) (by kernel_rfl) (by kernel_rfl) (by exact fun _ _ _ h => h) (Or.inl ⟨by rfl, ?hy⟩) (by assumption) ?_
                      case hy => (intro w hSw; (try dsimp only at hSw); go_simp; (try with_reducible rfl))
                      (try simp only [Act.put, List.setIfInBounds_toArray, List.set_cons_zero, List.set_cons_succ])
                      refine wpAnyH_take (i := 13) (oi := _) (v := ?_) (by simp only [List.getElem?_toArray, List.getElem?_cons_succ, List.getElem?_cons_zero]; rfl) (by kernel_rfl) (by kernel_rfl) (by kernel_rfl) (by exact fun _ _ _ h => h) (Or.inl ⟨by rfl, ?hy⟩) (by assumption) ?_
                      case hy => (intro w hSw; (try dsimp only at hSw); go_simp; (try with_reducible rfl))
                      (try simp only [Act.put, List.setIfInBounds_toArray, List.set_cons_zero, List.set_cons_succ])
                      refine wpAnyH_take (i := 14) (oi := _) (v := ?_) (by simp only [List.getElem?_toArray, List.getElem?_cons_succ, List.getElem?_cons_zero]; rfl) (by kernel_rfl) (by kernel_rfl) (by kernel_rfl) (by exact fun _ _ _ h => h) (Or.inl ⟨by rfl, ?hy⟩) (by assumption) ?_
                      case hy => (intro w hSw; (try dsimp only at hSw); go_simp; (try with_reducible rfl))
                      (try simp only [Act.put, List.setIfInBounds_toArray, List.set_cons_zero, List.set_cons_succ])
                      refine wpAnyH_ready (rs := [1, 8]) (by kernel_rfl) (by simp) ?_
                      refine AllReadyH.cons (o := _) (by simp only [List.getElem?_toArray, List.getElem?_cons_succ, List.getElem?_cons_zero]; rfl) (fun KK hK => ?_) (AllReadyH.cons (o := _) (by simp only [List.getElem?_toArray, List.getElem?_cons_succ, List.getElem?_cons_zero]; rfl) (fun KK hK => ?_) AllReadyH.nil)
                      · go_simp
                        refine hK.out _ _ ?hs (fun hHeld => ?_)
                        case hs => ((try dsimp only); exact ⟨Fb.old (by repeat (first | with_reducible exact hF | with_reducible apply Fb.drew | with_reducible apply Fb.other)) E6.out.1, Fb.old (by repeat (first | with_reducible exact hF | with_reducible apply Fb.drew | with_reducible apply Fb.other)) E6.out.2.1, Fb.old (by repeat (first | with_reducible exact hF | with_reducible apply Fb.drew | with_reducible apply Fb.other)) E6.out.2.2.1, Fb.old (by repeat (first | with_reducible exact hF | with_reducible apply Fb.drew | with_reducible apply Fb.other)) E6.out.2.2.2.1, Fb.old (by repeat (first | with_reducible exact hF | with_reducible apply Fb.drew | with_reducible apply Fb.other)) E6.out.2.2.2.2.1, Fb.old (by repeat (first | with_reducible exact hF | with_reducible apply Fb.drew | with_reducible apply Fb.other)) E6.out.2.2.2.2.2, Fb.get (by repeat (first | with_reducible exact hF | with_reducible apply Fb.drew | with_reducible apply Fb.other)) (List.mem_cons_of_mem _ (List.mem_cons_of_mem _ (List.mem_cons_of_mem _ (List.mem_cons_self ..)))) rfl⟩)
                        clear hK KK
                        (try simp only [Act.put, List.setIfInBounds_toArray, List.set_cons_zero, List.set_cons_succ])
                        refine wpAnyH_ready (rs := [8]) (by kernel_rfl) (by simp) ?_
                        refine AllReadyH.cons (o := _) (by simp only [List.getElem?_toArray, List.getElem?_cons_succ, List.getElem?_cons_zero]; rfl) (fun KK hK => ?_) AllReadyH.nil
                        go_simp
                        (go_at_call 40; go_must (refine (l4Copy_any f b lk _ _ P M _ (It.below HI.out.1 (Fb.kp (W := w) (by repeat (first | with_reducible exact hF | with_reducible apply Fb.drew | with_reducible apply Fb.other)))) (It.below HI.out.2 (Fb.kp (W := w) (by repeat (first | with_reducible exact hF | with_reducible apply Fb.drew | with_reducible apply Fb.other)))) (by have := HSS.out.1; dsimp only at this; omega) (by have := HSS.out.2; dsimp only at this; omega)).mono ?_); rintro e wy ⟨pv9, mv9, rfl, y1, y2, hby⟩; obtain ⟨oy1, cy1, rfl, -⟩ := y1.1.1.ex; obtain ⟨oy2, cy2, rfl, -⟩ := y2.1.1.ex; have hlo := hO.lt; have hsy := hby.size; simp only [World.size_drew] at hsy y1 y2; replace hF := Fb.below (by repeat (first | with_reducible exact hF | with_reducible apply Fb.drew | with_reducible apply Fb.other)) hby; replace hO := GO2.below (by repeat (first | with_reducible exact hO | with_reducible apply GO2.drew | with_reducible apply GO2.alloc)) hby; clear hby o; have o := hF.own; simp only [World.size_alloc, World.size_drew, World.size_setCell, List.mem_cons, List.not_mem_nil, or_false, forall_eq_or_imp, forall_eq, At, and_true, Nat.zero_add, Nat.reduceAdd, List.set_cons_zero, List.set_cons_succ] at o)
                        (try go_wp2_with fail)
                        refine hK.out _ _ ?hs (fun hHeld => ?_)
                        case hs => ((try dsimp only); exact ⟨Fb.old (by repeat (first | with_reducible exact hF | with_reducible apply Fb.drew | with_reducible apply Fb.other)) E6.out.1, Fb.old (by repeat (first | with_reducible exact hF | with_reducible apply Fb.drew | with_reducible apply Fb.other)) E6.out.2.1, Fb.old (by repeat (first | with_reducible exact hF | with_reducible apply Fb.drew | with_reducible apply Fb.other)) E6.out.2.2.1, Fb.old (by repeat (first | with_reducible exact hF | with_reducible apply Fb.drew | with_reducible apply Fb.other)) E6.out.2.2.2.1, Fb.old (by repeat (first | with_reducible exact hF | with_reducible apply Fb.drew | with_reducible apply Fb.other)) E6.out.2.2.2.2.1, Fb.old (by repeat (first | with_reducible exact hF | with_reducible apply Fb.drew | with_reducible apply Fb.other)) E6.out.2.2.2.2.2, Fb.get (by repeat (first | with_reducible exact hF | with_reducible apply Fb.drew | with_reducible apply Fb.other)) (List.mem_cons_of_mem _ (List.mem_cons_of_mem _ (List.mem_cons_of_mem _ (List.mem_cons_self ..)))) rfl⟩)
                        clear hK KK
                        (try simp only [Act.put, List.setIfInBounds_toArray, List.set_cons_zero, List.set_cons_succ])
                        refine wpAnyH_take (i := 15) (oi := _) (v := ?_) (by simp only [List.getElem?_toArray, List.getElem?_cons_succ, List.getElem?_cons_zero]; rfl) (by kernel_rfl) (by kernel_rfl) (by kernel_rfl) (by exact fun _ _ _ h => h) (Or.inl ⟨by rfl, ?hy⟩) (by assumption) ?_
                        case hy => (intro w hSw; (try dsimp only at hSw); go_simp; (try with_reducible rfl))
                        (try simp only [Act.put, List.setIfInBounds_toArray, List.set_cons_zero, List.set_cons_succ])
                        refine wpAnyH_ready (rs := [16]) (by kernel_rfl) (by simp) ?_
                        refine AllReadyH.cons (o := _) (by simp only [List.getElem?_toArray, List.getElem?_cons_succ, List.getElem?_cons_zero]; rfl) (fun KK hK => ?_) AllReadyH.nil
                        go_simp
                        refine hK.out _ _ ?hs (fun hHeld => ?_)
                        case hs => ((try dsimp only); exact ⟨Fb.old (by repeat (first | with_reducible exact hF | with_reducible apply Fb.drew | with_reducible apply Fb.other)) E6.out.1, Fb.old (by repeat (first | with_reducible exact hF | with_reducible apply Fb.drew | with_reducible apply Fb.other)) E6.out.2.1, Fb.old (by repeat (first | with_reducible exact hF | with_reducible apply Fb.drew | with_reducible apply Fb.other)) E6.out.2.2.1, Fb.old (by repeat (first | with_reducible exact hF | with_reducible apply Fb.drew | with_reducible apply Fb.other)) E6.out.2.2.2.1, Fb.old (by repeat (first | with_reducible exact hF | with_reducible apply Fb.drew | with_reducible apply Fb.other)) E6.out.2.2.2.2.1, Fb.old (by repeat (first | with_reducible exact hF | with_reducible apply Fb.drew | with_reducible apply Fb.other)) E6.out.2.2.2.2.2, Fb.get (by repeat (first | with_reducible exact hF | with_reducible apply Fb.drew | with_reducible apply Fb.other)) (List.mem_cons_of_mem _ (List.mem_cons_of_mem _ (List.mem_cons_of_mem _ (List.mem_cons_self ..)))) rfl⟩)
                        clear hK KK
                        (try simp only [Act.put, List.setIfInBounds_toArray, List.set_cons_zero, List.set_cons_succ])
                        refine wpAnyH_ready (rs := [17]) (by kernel_rfl) (by simp) ?_
                        refine AllReadyH.cons (o := _) (by simp only [List.getElem?_toArray, List.getElem?_cons_succ, List.getElem?_cons_zero]; rfl) (fun KK hK => ?_) AllReadyH.nil
                        (obtain ⟨ds, hOw, hG⟩ := hO; have hlG := hG.1; refine step_app (by rfl) _ _ 42 (by rfl) 48 (.agg #[.int .i64 0, .int .i64 0, .slice none 0 0, .int .i64 0, .slice none 0 0, .bool false]) 6 80 Tryd.underlying42 infoGt rfl (by decide) (by decide) (nb) encGt _ ds rfl (hOw.alloc _) (⟨f, b, lk, .slice oy1 P.length cy1, .slice oy2 M.length cy2, old⟩ : GtD) ⟨_, 0, none⟩ 1 rfl rfl (cells_new _ _ _) (by simp [encGt, Value.oneCell']) (by have := hnk.out; omega) (by simp only [World.size_alloc]; omega) ?_)
                        intro v9 wz hO9 hg9 hb9 hf9
                        have hO2 := g2_snoc (s := ((f, b, lk, P, M), old)) hG ((Below.refl _ _).alloc (Nat.le_refl _) _) hO9 hg9 hf9 (Sh.below (S := shGt) ⟨⟨rfl, rfl, rfl, rfl⟩, y1.1, y2.1⟩ ((Below.refl _ _).alloc (Nat.le_refl _) _)) (sub2 (fun g h => ⟨by have := y1.2 g h; omega, by have := y1.2 g h; simp only [World.size_alloc]; omega, fun e => by have := y1.2 g h; have := hlo g e; omega⟩) (fun g h => ⟨by have := y2.2 g h; omega, by have := y2.2 g h; simp only [World.size_alloc]; omega, fun e => by have := y2.2 g h; have := hlo g e; omega⟩))
                        have hsz9 := hb9.size
                        simp only [World.size_alloc] at hsz9
                        skip
                        replace hF := (hF.other (.cells #[.int .i64 f, .int .i64 b, .slice oy1 P.length cy1, .int .i64 lk, .slice oy2 M.length cy2, .bool old] 48)).grownQ hg9 (fun g' hg => by have := hOw.ge g' hg; have := HN.out; omega) (fun p hp e => by have := hOw.ge _ e; simp only [List.mem_cons, List.not_mem_nil, or_false] at hp; rcases hp with rfl | rfl | rfl | rfl <;> simp only at this <;> omega)
                        obtain ⟨a9, c9, rfl⟩ := hO2.sl
                        obtain ⟨n9, hn9⟩ : ∃ n9, Hid ((K ++ [((f, b, lk, P, M), old)]).length = n9) := ⟨_, rfl⟩
                        rw [hn9.out] at hO2 ⊢
                        clear hg9 hb9 hf9 hO9 hOw hG o hlG
                        have o := hF.own; simp only [World.size_alloc, World.size_drew, World.size_setCell, List.mem_cons, List.not_mem_nil, or_false, forall_eq_or_imp, forall_eq, At, and_true, Nat.zero_add, Nat.reduceAdd, List.set_cons_zero, List.set_cons_succ] at o
                        refine hK.out _ _ ?hs (fun hHeld => ?_)
                        case hs => ((try dsimp only); exact ⟨Fb.old (by repeat (first | with_reducible exact hF | with_reducible apply Fb.drew | with_reducible apply Fb.other)) E6.out.1, Fb.old (by repeat (first | with_reducible exact hF | with_reducible apply Fb.drew | with_reducible apply Fb.other)) E6.out.2.1, Fb.old (by repeat (first | with_reducible exact hF | with_reducible apply Fb.drew | with_reducible apply Fb.other)) E6.out.2.2.1, Fb.old (by repeat (first | with_reducible exact hF | with_reducible apply Fb.drew | with_reducible apply Fb.other)) E6.out.2.2.2.1, Fb.old (by repeat (first | with_reducible exact hF | with_reducible apply Fb.drew | with_reducible apply Fb.other)) E6.out.2.2.2.2.1, Fb.old (by repeat (first | with_reducible exact hF | with_reducible apply Fb.drew | with_reducible apply Fb.other)) E6.out.2.2.2.2.2, Fb.get (by repeat (first | with_reducible exact hF | with_reducible apply Fb.drew | with_reducible apply Fb.other)) (List.mem_cons_of_mem _ (List.mem_cons_of_mem _ (List.mem_cons_of_mem _ (List.mem_cons_self ..)))) rfl⟩)
                        clear hK KK
                        (try simp only [Act.put, List.setIfInBounds_toArray, List.set_cons_zero, List.set_cons_succ])
                        refine wpAnyH_take (i := 18) (oi := _) (v := ?_) (by simp only [List.getElem?_toArray, List.getElem?_cons_succ, List.getElem?_cons_zero]; rfl) (by kernel_rfl) (by kernel_rfl) (by kernel_rfl) (by exact fun _ _ _ h => h) (Or.inl ⟨by rfl, ?hy⟩) (by assumption) ?_
                        case hy => (intro w hSw; (try dsimp only at hSw); go_simp; (try with_reducible rfl))
                        (try simp only [Act.put, List.setIfInBounds_toArray, List.set_cons_zero, List.set_cons_succ])
                        refine wpAnyH_ready (rs := [19]) (by kernel_rfl) (by simp) ?_
                        refine AllReadyH.cons (o := _) (by simp only [List.getElem?_toArray, List.getElem?_cons_succ, List.getElem?_cons_zero]; rfl) (fun KK hK => ?_) AllReadyH.nil
                        go_simp
                        replace hF := hF.set 2 (.slice a9 n9 c9) (by simp) (by simp <;> omega)
                        have hO := hO2.put (p := ⟨n6, 2, none⟩) (fun e => by have := hO2.ge _ e; dsimp only at this; omega) (by dsimp only; omega) (.slice a9 n9 c9)
                        refine hK.out _ _ ?hs (fun hHeld => ?_)
                        case hs => ((try dsimp only); exact ⟨Fb.old (by repeat (first | with_reducible exact hF | with_reducible apply Fb.drew | with_reducible apply Fb.other)) E6.out.1, Fb.old (by repeat (first | with_reducible exact hF | with_reducible apply Fb.drew | with_reducible apply Fb.other)) E6.out.2.1, Fb.old (by repeat (first | with_reducible exact hF | with_reducible apply Fb.drew | with_reducible apply Fb.other)) E6.out.2.2.1, Fb.old (by repeat (first | with_reducible exact hF | with_reducible apply Fb.drew | with_reducible apply Fb.other)) E6.out.2.2.2.1, Fb.old (by repeat (first | with_reducible exact hF | with_reducible apply Fb.drew | with_reducible apply Fb.other)) E6.out.2.2.2.2.1, Fb.old (by repeat (first | with_reducible exact hF | with_reducible apply Fb.drew | with_reducible apply Fb.other)) E6.out.2.2.2.2.2, Fb.get (by repeat (first | with_reducible exact hF | with_reducible apply Fb.drew | with_reducible apply Fb.other)) (List.mem_cons_of_mem _ (List.mem_cons_of_mem _ (List.mem_cons_of_mem _ (List.mem_cons_self ..)))) rfl⟩)
                        clear hK KK
                        (try simp only [Act.put, List.setIfInBounds_toArray, List.set_cons_zero, List.set_cons_succ])
                        refine wpAnyH_done (by kernel_rfl) ?_ _
                        clear hO2 o
                        have o := hF.own; simp only [World.size_alloc, World.size_drew, World.size_setCell, List.mem_cons, List.not_mem_nil, or_false, forall_eq_or_imp, forall_eq, At, and_true, Nat.zero_add, Nat.reduceAdd, List.set_cons_zero, List.set_cons_succ] at o
                        go_wp2_with fail
                        go_roundw
                        case rel => exact ⟨k + 1, put, _, K ++ [((f, b, lk, P, M), old)], by omega, by go_num, rfl, by simp; omega, fun h => (by have := hKp.out h; simp; omega), smg_snoc hKs.out HSS.out, by simp only [World.size_setCell]; omega, hO, hF⟩
                        case measure => simp [intOf]; omega
                      ·
                        go_simp
                        (go_at_call 40; go_must (refine (l4Copy_any f b lk _ _ P M _ (It.below HI.out.1 (Fb.kp (W := w) (by repeat (first | with_reducible exact hF | with_reducible apply Fb.drew | with_reducible apply Fb.other)))) (It.below HI.out.2 (Fb.kp (W := w) (by repeat (first | with_reducible exact hF | with_reducible apply Fb.drew | with_reducible apply Fb.other)))) (by have := HSS.out.1; dsimp only at this; omega) (by have := HSS.out.2; dsimp only at this; omega)).mono ?_); rintro e wy ⟨pv9, mv9, rfl, y1, y2, hby⟩; obtain ⟨oy1, cy1, rfl, -⟩ := y1.1.1.ex; obtain ⟨oy2, cy2, rfl, -⟩ := y2.1.1.ex; have hlo := hO.lt; have hsy := hby.size; simp only [World.size_drew] at hsy y1 y2; replace hF := Fb.below (by repeat (first | with_reducible exact hF | with_reducible apply Fb.drew | with_reducible apply Fb.other)) hby; replace hO := GO2.below (by repeat (first | with_reducible exact hO | with_reducible apply GO2.drew | with_reducible apply GO2.alloc)) hby; clear hby o; have o := hF.own; simp only [World.size_alloc, World.size_drew, World.size_setCell, List.mem_cons, List.not_mem_nil, or_false, forall_eq_or_imp, forall_eq, At, and_true, Nat.zero_add, Nat.reduceAdd, List.set_cons_zero, List.set_cons_succ] at o)
                        (try go_wp2_with fail)
                        refine hK.out _ _ ?hs (fun hHeld => ?_)
                        case hs => ((try dsimp only); exact ⟨Fb.old (by repeat (first | with_reducible exact hF | with_reducible apply Fb.drew | with_reducible apply Fb.other)) E6.out.1, Fb.old (by repeat (first | with_reducible exact hF | with_reducible apply Fb.drew | with_reducible apply Fb.other)) E6.out.2.1, Fb.old (by repeat (first | with_reducible exact hF | with_reducible apply Fb.drew | with_reducible apply Fb.other)) E6.out.2.2.1, Fb.old (by repeat (first | with_reducible exact hF | with_reducible apply Fb.drew | with_reducible apply Fb.other)) E6.out.2.2.2.1, Fb.old (by repeat (first | with_reducible exact hF | with_reducible apply Fb.drew | with_reducible apply Fb.other)) E6.out.2.2.2.2.1, Fb.old (by repeat (first | with_reducible exact hF | with_reducible apply Fb.drew | with_reducible apply Fb.other)) E6.out.2.2.2.2.2, Fb.get (by repeat (first | with_reducible exact hF | with_reducible apply Fb.drew | with_reducible apply Fb.other)) (List.mem_cons_of_mem _ (List.mem_cons_of_mem _ (List.mem_cons_of_mem _ (List.mem_cons_self ..)))) rfl⟩)
                        clear hK KK
                        (try simp only [Act.put, List.setIfInBounds_toArray, List.set_cons_zero, List.set_cons_succ])
                        refine wpAnyH_take (i := 15) (oi := _) (v := ?_) (by simp only [List.getElem?_toArray, List.getElem?_cons_succ, List.getElem?_cons_zero]; rfl) (by kernel_rfl) (by kernel_rfl) (by kernel_rfl) (by exact fun _ _ _ h => h) (Or.inl ⟨by rfl, ?hy⟩) (by assumption) ?_
                        case hy => (intro w hSw; (try dsimp only at hSw); go_simp; (try with_reducible rfl))
                        (try simp only [Act.put, List.setIfInBounds_toArray, List.set_cons_zero, List.set_cons_succ])
                        refine wpAnyH_ready (rs := [1, 16]) (by kernel_rfl) (by simp) ?_
                        refine AllReadyH.cons (o := _) (by simp only [List.getElem?_toArray, List.getElem?_cons_succ, List.getElem?_cons_zero]; rfl) (fun KK hK => ?_) (AllReadyH.cons (o := _) (by simp only [List.getElem?_toArray, List.getElem?_cons_succ, List.getElem?_cons_zero]; rfl) (fun KK hK => ?_) AllReadyH.nil)
                        · go_simp
                          refine hK.out _ _ ?hs (fun hHeld => ?_)
                          case hs => ((try dsimp only); exact ⟨Fb.old (by repeat (first | with_reducible exact hF | with_reducible apply Fb.drew | with_reducible apply Fb.other)) E6.out.1, Fb.old (by repeat (first | with_reducible exact hF | with_reducible apply Fb.drew | with_reducible apply Fb.other)) E6.out.2.1, Fb.old (by repeat (first | with_reducible exact hF | with_reducible apply Fb.drew | with_reducible apply Fb.other)) E6.out.2.2.1, Fb.old (by repeat (first | with_reducible exact hF | with_reducible apply Fb.drew | with_reducible apply Fb.other)) E6.out.2.2.2.1, Fb.old (by repeat (first | with_reducible exact hF | with_reducible apply Fb.drew | with_reducible apply Fb.other)) E6.out.2.2.2.2.1, Fb.old (by repeat (first | with_reducible exact hF | with_reducible apply Fb.drew | with_reducible apply Fb.other)) E6.out.2.2.2.2.2, Fb.get (by repeat (first | with_reducible exact hF | with_reducible apply Fb.drew | with_reducible apply Fb.other)) (List.mem_cons_of_mem _ (List.mem_cons_of_mem _ (List.mem_cons_of_mem _ (List.mem_cons_self ..)))) rfl⟩)
                          clear hK KK
                          (try simp only [Act.put, List.setIfInBounds_toArray, List.set_cons_zero, List.set_cons_succ])
                          refine wpAnyH_ready (rs := [16]) (by kernel_rfl) (by simp) ?_
                          refine AllReadyH.cons (o := _) (by simp only [List.getElem?_toArray, List.getElem?_cons_succ, List.getElem?_cons_zero]; rfl) (fun KK hK => ?_) AllReadyH.nil
                          go_simp
                          refine hK.out _ _ ?hs (fun hHeld => ?_)
                          case hs => ((try dsimp only); exact ⟨Fb.old (by repeat (first | with_reducible exact hF | with_reducible apply Fb.drew | with_reducible apply Fb.other)) E6.out.1, Fb.old (by repeat (first | with_reducible exact hF | with_reducible apply Fb.drew | with_reducible apply Fb.other)) E6.out.2.1, Fb.old (by repeat (first | with_reducible exact hF | with_reducible apply Fb.drew | with_reducible apply Fb.other)) E6.out.2.2.1, Fb.old (by repeat (first | with_reducible exact hF | with_reducible apply Fb.drew | with_reducible apply Fb.other)) E6.out.2.2.2.1, Fb.old (by repeat (first | with_reducible exact hF | with_reducible apply Fb.drew | with_reducible apply Fb.other)) E6.out.2.2.2.2.1, Fb.old (by repeat (first | with_reducible exact hF | with_reducible apply Fb.drew | with_reducible apply Fb.other)) E6.out.2.2.2.2.2, Fb.get (by repeat (first | with_reducible exact hF | with_reducible apply Fb.drew | with_reducible apply Fb.other)) (List.mem_cons_of_mem _ (List.mem_cons_of_mem _ (List.mem_cons_of_mem _ (List.mem_cons_self ..)))) rfl⟩)
                          clear hK KK
                          (try simp only [Act.put, List.setIfInBounds_toArray, List.set_cons_zero, List.set_cons_succ])
                          refine wpAnyH_ready (rs := [17]) (by kernel_rfl) (by simp) ?_
                          refine AllReadyH.cons (o := _) (by simp only [List.getElem?_toArray, List.getElem?_cons_succ, List.getElem?_cons_zero]; rfl) (fun KK hK => ?_) AllReadyH.nil
                          (obtain ⟨ds, hOw, hG⟩ := hO; have hlG := hG.1; refine step_app (by rfl) _ _ 42 (by rfl) 48 (.agg #[.int .i64 0, .int .i64 0, .slice none 0 0, .int .i64 0, .slice none 0 0, .bool false]) 6 80 Tryd.underlying42 infoGt rfl (by decide) (by decide) (nb) encGt _ ds rfl (hOw.alloc _) (⟨f, b, lk, .slice oy1 P.length cy1, .slice oy2 M.length cy2, old⟩ : GtD) ⟨_, 0, none⟩ 1 rfl rfl (cells_new _ _ _) (by simp [encGt, Value.oneCell']) (by have := hnk.out; omega) (by simp only [World.size_alloc]; omega) ?_)
                          intro v9 wz hO9 hg9 hb9 hf9
                          have hO2 := g2_snoc (s := ((f, b, lk, P, M), old)) hG ((Below.refl _ _).alloc (Nat.le_refl _) _) hO9 hg9 hf9 (Sh.below (S := shGt) ⟨⟨rfl, rfl, rfl, rfl⟩, y1.1, y2.1⟩ ((Below.refl _ _).alloc (Nat.le_refl _) _)) (sub2 (fun g h => ⟨by have := y1.2 g h; omega, by have := y1.2 g h; simp only [World.size_alloc]; omega, fun e => by have := y1.2 g h; have := hlo g e; omega⟩) (fun g h => ⟨by have := y2.2 g h; omega, by have := y2.2 g h; simp only [World.size_alloc]; omega, fun e => by have := y2.2 g h; have := hlo g e; omega⟩))
                          have hsz9 := hb9.size
                          simp only [World.size_alloc] at hsz9
                          skip
                          replace hF := (hF.other (.cells #[.int .i64 f, .int .i64 b, .slice oy1 P.length cy1, .int .i64 lk, .slice oy2 M.length cy2, .bool old] 48)).grownQ hg9 (fun g' hg => by have := hOw.ge g' hg; have := HN.out; omega) (fun p hp e => by have := hOw.ge _ e; simp only [List.mem_cons, List.not_mem_nil, or_false] at hp; rcases hp with rfl | rfl | rfl | rfl <;> simp only at this <;> omega)
                          obtain ⟨a9, c9, rfl⟩ := hO2.sl
                          obtain ⟨n9, hn9⟩ : ∃ n9, Hid ((K ++ [((f, b, lk, P, M), old)]).length = n9) := ⟨_, rfl⟩
                          rw [hn9.out] at hO2 ⊢
                          clear hg9 hb9 hf9 hO9 hOw hG o hlG
                          have o := hF.own; simp only [World.size_alloc, World.size_drew, World.size_setCell, List.mem_cons, List.not_mem_nil, or_false, forall_eq_or_imp, forall_eq, At, and_true, Nat.zero_add, Nat.reduceAdd, List.set_cons_zero, List.set_cons_succ] at o
                          refine hK.out _ _ ?hs (fun hHeld => ?_)
                          case hs => ((try dsimp only); exact ⟨Fb.old (by repeat (first | with_reducible exact hF | with_reducible apply Fb.drew | with_reducible apply Fb.other)) E6.out.1, Fb.old (by repeat (first | with_reducible exact hF | with_reducible apply Fb.drew | with_reducible apply Fb.other)) E6.out.2.1, Fb.old (by repeat (first | with_reducible exact hF | with_reducible apply Fb.drew | with_reducible apply Fb.other)) E6.out.2.2.1, Fb.old (by repeat (first | with_reducible exact hF | with_reducible apply Fb.drew | with_reducible apply Fb.other)) E6.out.2.2.2.1, Fb.old (by repeat (first | with_reducible exact hF | with_reducible apply Fb.drew | with_reducible apply Fb.other)) E6.out.2.2.2.2.1, Fb.old (by repeat (first | with_reducible exact hF | with_reducible apply Fb.drew | with_reducible apply Fb.other)) E6.out.2.2.2.2.2, Fb.get (by repeat (first | with_reducible exact hF | with_reducible apply Fb.drew | with_reducible apply Fb.other)) (List.mem_cons_of_mem _ (List.mem_cons_of_mem _ (List.mem_cons_of_mem _ (List.mem_cons_self ..)))) rfl⟩)
                          clear hK KK
                          (try simp only [Act.put, List.setIfInBounds_toArray, List.set_cons_zero, List.set_cons_succ])
                          refine wpAnyH_take (i := 18) (oi := _) (v := ?_) (by simp only [List.getElem?_toArray, List.getElem?_cons_succ, List.getElem?_cons_zero]; rfl) (by kernel_rfl) (by kernel_rfl) (by kernel_rfl) (by exact fun _ _ _ h => h) (Or.inl ⟨by rfl, ?hy⟩) (by assumption) ?_
                          case hy => (intro w hSw; (try dsimp only at hSw); go_simp; (try with_reducible rfl))
                          (try simp only [Act.put, List.setIfInBounds_toArray, List.set_cons_zero, List.set_cons_succ])
                          refine wpAnyH_ready (rs := [19]) (by kernel_rfl) (by simp) ?_
                          refine AllReadyH.cons (o := _) (by simp only [List.getElem?_toArray, List.getElem?_cons_succ, List.getElem?_cons_zero]; rfl) (fun KK hK => ?_) AllReadyH.nil
                          go_simp
                          replace hF := hF.set 2 (.slice a9 n9 c9) (by simp) (by simp <;> omega)
                          have hO := hO2.put (p := ⟨n6, 2, none⟩) (fun e => by have := hO2.ge _ e; dsimp only at this; omega) (by dsimp only; omega) (.slice a9 n9 c9)
                          refine hK.out _ _ ?hs (fun hHeld => ?_)
                          case hs => ((try dsimp only); exact ⟨Fb.old (by repeat (first | with_reducible exact hF | with_reducible apply Fb.drew | with_reducible apply Fb.other)) E6.out.1, Fb.old (by repeat (first | with_reducible exact hF | with_reducible apply Fb.drew | with_reducible apply Fb.other)) E6.out.2.1, Fb.old (by repeat (first | with_reducible exact hF | with_reducible apply Fb.drew | with_reducible apply Fb.other)) E6.out.2.2.1, Fb.old (by repeat (first | with_reducible exact hF | with_reducible apply Fb.drew | with_reducible apply Fb.other)) E6.out.2.2.2.1, Fb.old (by repeat (first | with_reducible exact hF | with_reducible apply Fb.drew | with_reducible apply Fb.other)) E6.out.2.2.2.2.1, Fb.old (by repeat (first | with_reducible exact hF | with_reducible apply Fb.drew | with_reducible apply Fb.other)) E6.out.2.2.2.2.2, Fb.get (by repeat (first | with_reducible exact hF | with_reducible apply Fb.drew | with_reducible apply Fb.other)) (List.mem_cons_of_mem _ (List.mem_cons_of_mem _ (List.mem_cons_of_mem _ (List.mem_cons_self ..)))) rfl⟩)
                          clear hK KK
                          (try simp only [Act.put, List.setIfInBounds_toArray, List.set_cons_zero, List.set_cons_succ])
                          refine wpAnyH_done (by kernel_rfl) ?_ _
                          clear hO2 o
                          have o := hF.own; simp only [World.size_alloc, World.size_drew, World.size_setCell, List.mem_cons, List.not_mem_nil, or_false, forall_eq_or_imp, forall_eq, At, and_true, Nat.zero_add, Nat.reduceAdd, List.set_cons_zero, List.set_cons_succ] at o
                          go_wp2_with fail
                          go_roundw
                          case rel => exact ⟨k + 1, put, _, K ++ [((f, b, lk, P, M), old)], by omega, by go_num, rfl, by simp; omega, fun h => (by have := hKp.out h; simp; omega), smg_snoc hKs.out HSS.out, by simp only [World.size_setCell]; omega, hO, hF⟩
                          case measure => simp [intOf]; omega
                        · go_simp
                          refine hK.out _ _ ?hs (fun hHeld => ?_)
                          case hs => ((try dsimp only); exact ⟨Fb.old (by repeat (first | with_reducible exact hF | with_reducible apply Fb.drew | with_reducible apply Fb.other)) E6.out.1, Fb.old (by repeat (first | with_reducible exact hF | with_reducible apply Fb.drew | with_reducible apply Fb.other)) E6.out.2.1, Fb.old (by repeat (first | with_reducible exact hF | with_reducible apply Fb.drew | with_reducible apply Fb.other)) E6.out.2.2.1, Fb.old (by repeat (first | with_reducible exact hF | with_reducible apply Fb.drew | with_reducible apply Fb.other)) E6.out.2.2.2.1, Fb.old (by repeat (first | with_reducible exact hF | with_reducible apply Fb.drew | with_reducible apply Fb.other)) E6.out.2.2.2.2.1, Fb.old (by repeat (first | with_reducible exact hF | with_reducible apply Fb.drew | with_reducible apply Fb.other)) E6.out.2.2.2.2.2, Fb.get (by repeat (first | with_reducible exact hF | with_reducible apply Fb.drew | with_reducible apply Fb.other)) (List.mem_cons_of_mem _ (List.mem_cons_of_mem _ (List.mem_cons_of_mem _ (List.mem_cons_self ..)))) rfl⟩)
                          clear hK KK
                          (try simp only [Act.put, List.setIfInBounds_toArray, List.set_cons_zero, List.set_cons_succ])
                          refine wpAnyH_ready (rs := [1]) (by kernel_rfl) (by simp) ?_
                          refine AllReadyH.cons (o := _) (by simp only [List.getElem?_toArray, List.getElem?_cons_succ, List.getElem?_cons_zero]; rfl) (fun KK hK => ?_) AllReadyH.nil
                          go_simp
                          refine hK.out _ _ ?hs (fun hHeld => ?_)
                          case hs => ((try dsimp only); exact ⟨Fb.old (by repeat (first | with_reducible exact hF | with_reducible apply Fb.drew | with_reducible apply Fb.other)) E6.out.1, Fb.old (by repeat (first | with_reducible exact hF | with_reducible apply Fb.drew | with_reducible apply Fb.other)) E6.out.2.1, Fb.old (by repeat (first | with_reducible exact hF | with_reducible apply Fb.drew | with_reducible apply Fb.other)) E6.out.2.2.1, Fb.old (by repeat (first | with_reducible exact hF | with_reducible apply Fb.drew | with_reducible apply Fb.other)) E6.out.2.2.2.1, Fb.old (by repeat (first | with_reducible exact hF | with_reducible apply Fb.drew | with_reducible apply Fb.other)) E6.out.2.2.2.2.1, Fb.old (by repeat (first | with_reducible exact hF | with_reducible apply Fb.drew | with_reducible apply Fb.other)) E6.out.2.2.2.2.2, Fb.get (by repeat (first | with_reducible exact hF | with_reducible apply Fb.drew | with_reducible apply Fb.other)) (List.mem_cons_of_mem _ (List.mem_cons_of_mem _ (List.mem_cons_of_mem _ (List.mem_cons_self ..)))) rfl⟩)
                          clear hK KK
                          (try simp only [Act.put, List.setIfInBounds_toArray, List.set_cons_zero, List.set_cons_succ])
                          refine wpAnyH_ready (rs := [17]) (by kernel_rfl) (by simp) ?_
                          refine AllReadyH.cons (o := _) (by simp only [List.getElem?_toArray, List.getElem?_cons_succ, List.getElem?_cons_zero]; rfl) (fun KK hK => ?_) AllReadyH.nil
                          (obtain ⟨ds, hOw, hG⟩ := hO; have hlG := hG.1; refine step_app (by rfl) _ _ 42 (by rfl) 48 (.agg #[.int .i64 0, .int .i64 0, .slice none 0 0, .int .i64 0, .slice none 0 0, .bool false]) 6 80 Tryd.underlying42 infoGt rfl (by decide) (by decide) (nb) encGt _ ds rfl (hOw.alloc _) (⟨f, b, lk, .slice oy1 P.length cy1, .slice oy2 M.length cy2, old⟩ : GtD) ⟨_, 0, none⟩ 1 rfl rfl (cells_new _ _ _) (by simp [encGt, Value.oneCell']) (by have := hnk.out; omega) (by simp only [World.size_alloc]; omega) ?_)
                          intro v9 wz hO9 hg9 hb9 hf9
                          have hO2 := g2_snoc (s := ((f, b, lk, P, M), old)) hG ((Below.refl _ _).alloc (Nat.le_refl _) _) hO9 hg9 hf9 (Sh.below (S := shGt) ⟨⟨rfl, rfl, rfl, rfl⟩, y1.1, y2.1⟩ ((Below.refl _ _).alloc (Nat.le_refl _) _)) (sub2 (fun g h => ⟨by have := y1.2 g h; omega, by have := y1.2 g h; simp only [World.size_alloc]; omega, fun e => by have := y1.2 g h; have := hlo g e; omega⟩) (fun g h => ⟨by have := y2.2 g h; omega, by have := y2.2 g h; simp only [World.size_alloc]; omega, fun e => by have := y2.2 g h; have := hlo g e; omega⟩))
                          have hsz9 := hb9.size
                          simp only [World.size_alloc] at hsz9
                          skip
                          replace hF := (hF.other (.cells #[.int .i64 f, .int .i64 b, .slice oy1 P.length cy1, .int .i64 lk, .slice oy2 M.length cy2, .bool old] 48)).grownQ hg9 (fun g' hg => by have := hOw.ge g' hg; have := HN.out; omega) (fun p hp e => by have := hOw.ge _ e; simp only [List.mem_cons, List.not_mem_nil, or_false] at hp; rcases hp with rfl | rfl | rfl | rfl <;> simp only at this <;> omega)
                          obtain ⟨a9, c9, rfl⟩ := hO2.sl
                          obtain ⟨n9, hn9⟩ : ∃ n9, Hid ((K ++ [((f, b, lk, P, M), old)]).length = n9) := ⟨_, rfl⟩
                          rw [hn9.out] at hO2 ⊢
                          clear hg9 hb9 hf9 hO9 hOw hG o hlG
                          have o := hF.own; simp only [World.size_alloc, World.size_drew, World.size_setCell, List.mem_cons, List.not_mem_nil, or_false, forall_eq_or_imp, forall_eq, At, and_true, Nat.zero_add, Nat.reduceAdd, List.set_cons_zero, List.set_cons_succ] at o
                          refine hK.out _ _ ?hs (fun hHeld => ?_)
                          case hs => ((try dsimp only); exact ⟨Fb.old (by repeat (first | with_reducible exact hF | with_reducible apply Fb.drew | with_reducible apply Fb.other)) E6.out.1, Fb.old (by repeat (first | with_reducible exact hF | with_reducible apply Fb.drew | with_reducible apply Fb.other)) E6.out.2.1, Fb.old (by repeat (first | with_reducible exact hF | with_reducible apply Fb.drew | with_reducible apply Fb.other)) E6.out.2.2.1, Fb.old (by repeat (first | with_reducible exact hF | with_reducible apply Fb.drew | with_reducible apply Fb.other)) E6.out.2.2.2.1, Fb.old (by repeat (first | with_reducible exact hF | with_reducible apply Fb.drew | with_reducible apply Fb.other)) E6.out.2.2.2.2.1, Fb.old (by repeat (first | with_reducible exact hF | with_reducible apply Fb.drew | with_reducible apply Fb.other)) E6.out.2.2.2.2.2, Fb.get (by repeat (first | with_reducible exact hF | with_reducible apply Fb.drew | with_reducible apply Fb.other)) (List.mem_cons_of_mem _ (List.mem_cons_of_mem _ (List.mem_cons_of_mem _ (List.mem_cons_self ..)))) rfl⟩)
                          clear hK KK
                          (try simp only [Act.put, List.setIfInBounds_toArray, List.set_cons_zero, List.set_cons_succ])
                          refine wpAnyH_take (i := 18) (oi := _) (v := ?_) (by simp only [List.getElem?_toArray, List.getElem?_cons_succ, List.getElem?_cons_zero]; rfl) (by kernel_rfl) (by kernel_rfl) (by kernel_rfl) (by exact fun _ _ _ h => h) (Or.inl ⟨by rfl, ?hy⟩) (by assumption) ?_
                          case hy => (intro w hSw; (try dsimp only at hSw); go_simp; (try with_reducible rfl))
                          (try simp only [Act.put, List.setIfInBounds_toArray, List.set_cons_zero, List.set_cons_succ])
                          refine wpAnyH_ready (rs := [19]) (by kernel_rfl) (by simp) ?_
                          refine AllReadyH.cons (o := _) (by simp only [List.getElem?_toArray, List.getElem?_cons_succ, List.getElem?_cons_zero]; rfl) (fun KK hK => ?_) AllReadyH.nil
                          go_simp
                          replace hF := hF.set 2 (.slice a9 n9 c9) (by simp) (by simp <;> omega)
                          have hO := hO2.put (p := ⟨n6, 2, none⟩) (fun e => by have := hO2.ge _ e; dsimp only at this; omega) (by dsimp only; omega) (.slice a9 n9 c9)
                          refine hK.out _ _ ?hs (fun hHeld => ?_)
                          case hs => ((try dsimp only); exact ⟨Fb.old (by repeat (first | with_reducible exact hF | with_reducible apply Fb.drew | with_reducible apply Fb.other)) E6.out.1, Fb.old (by repeat (first | with_reducible exact hF | with_reducible apply Fb.drew | with_reducible apply Fb.other)) E6.out.2.1, Fb.old (by repeat (first | with_reducible exact hF | with_reducible apply Fb.drew | with_reducible apply Fb.other)) E6.out.2.2.1, Fb.old (by repeat (first | with_reducible exact hF | with_reducible apply Fb.drew | with_reducible apply Fb.other)) E6.out.2.2.2.1, Fb.old (by repeat (first | with_reducible exact hF | with_reducible apply Fb.drew | with_reducible apply Fb.other)) E6.out.2.2.2.2.1, Fb.old (by repeat (first | with_reducible exact hF | with_reducible apply Fb.drew | with_reducible apply Fb.other)) E6.out.2.2.2.2.2, Fb.get (by repeat (first | with_reducible exact hF | with_reducible apply Fb.drew | with_reducible apply Fb.other)) (List.mem_cons_of_mem _ (List.mem_cons_of_mem _ (List.mem_cons_of_mem _ (List.mem_cons_self ..)))) rfl⟩)
                          clear hK KK
                          (try simp only [Act.put, List.setIfInBounds_toArray, List.set_cons_zero, List.set_cons_succ])
                          refine wpAnyH_done (by kernel_rfl) ?_ _
                          clear hO2 o
                          have o := hF.own; simp only [World.size_alloc, World.size_drew, World.size_setCell, List.mem_cons, List.not_mem_nil, or_false, forall_eq_or_imp, forall_eq, At, and_true, Nat.zero_add, Nat.reduceAdd, List.set_cons_zero, List.set_cons_succ] at o
                          go_wp2_with fail
                          go_roundw
                          case rel => exact ⟨k + 1, put, _, K ++ [((f, b, lk, P, M), old)], by omega, by go_num, rfl, by simp; omega, fun h => (by have := hKp.out h; simp; omega), smg_snoc hKs.out HSS.out, by simp only [World.size_setCell]; omega, hO, hF⟩
                          case measure => simp [intOf]; omega
                · have hkn : k = n := by omega
                  subst hkn
                  go_upto_if 110 with (fail)
                  go_cut [8] (fun s8 wx => ∃ (put' : Bool) (u' : Value) (K' : List Gt), s8 = .bool put' ∧ K'.length ≤ k + 1 ∧ Hid (put' = false → K'.length ≤ k + 1) ∧ Hid (∀ s ∈ K', SmG s) ∧ nb + 1 ≤ wx.heap.size ∧ GO2 shGt 48 wx nb (nb + 1) u' K' ∧ Fb w wx [(n6, [.int .i64 H, .bool true, u']), (n1 + 1 + 1, [.int .i64 0, .bool false, .slice none 0 0]), (n1 + 1, [.int .i64 g, .int .i64 c, .slice (some ⟨b5, p5, none⟩) px p1, .int .i64 l2, .slice o2 mx m1]), (n1, [.int .i64 H, .bool true, .slice ao k cap])])
                  case first =>
                    cases put with
                    | true =>
                      go_wp2_with fail
                      go_meet
                      case rel => exact ⟨true, _, K, rfl, hKk, fun _ => hKk, hKs, hsz, hO, hF⟩
                    | false =>
                      have hKl := hKp.out (by trivial)
                      have h6b := hs6
                      go_upto_region 20 with (fail)
                      refine wp_region_held_drew (S := fun w' => w'.cell? ⟨n1 + 1, 0, none⟩ = some (.int .i64 g) ∧ w'.cell? ⟨n1 + 1, 1, none⟩ = some (.int .i64 c) ∧ w'.cell? ⟨n1 + 1, 2, none⟩ = some (.slice (some ⟨b5, p5, none⟩) px p1) ∧ w'.cell? ⟨n1 + 1, 3, none⟩ = some (.int .i64 l2) ∧ w'.cell? ⟨n1 + 1, 4, none⟩ = some (.slice o2 mx m1)) (by kernel_rfl) ?hs (fun hHeld => ?_)
                      case hs => exact ⟨Fb.get (by repeat (first | with_reducible exact hF | with_reducible apply Fb.drew | with_reducible apply Fb.other)) (List.mem_cons_of_mem _ (List.mem_cons_of_mem _ (List.mem_cons_self ..))) rfl, Fb.get (by repeat (first | with_reducible exact hF | with_reducible apply Fb.drew | with_reducible apply Fb.other)) (List.mem_cons_of_mem _ (List.mem_cons_of_mem _ (List.mem_cons_self ..))) rfl, Fb.get (by repeat (first | with_reducible exact hF | with_reducible apply Fb.drew | with_reducible apply Fb.other)) (List.mem_cons_of_mem _ (List.mem_cons_of_mem _ (List.mem_cons_self ..))) rfl, Fb.get (by repeat (first | with_reducible exact hF | with_reducible apply Fb.drew | with_reducible apply Fb.other)) (List.mem_cons_of_mem _ (List.mem_cons_of_mem _ (List.mem_cons_self ..))) rfl, Fb.get (by repeat (first | with_reducible exact hF | with_reducible apply Fb.drew | with_reducible apply Fb.other)) (List.mem_cons_of_mem _ (List.mem_cons_of_mem _ (List.mem_cons_self ..))) rfl⟩
                      refine wpAnyH_take (i := 0) (oi := _) (v := ?_) (by simp only [List.getElem?_toArray, List.getElem?_cons_succ, List.getElem?_cons_zero]; rfl) (by kernel_rfl) (by kernel_rfl) (by kernel_rfl) (by exact fun _ _ _ h => h) (Or.inl ⟨by rfl, ?hy⟩) (by assumption) ?_
                      case hy => (intro w hSw; (try dsimp only at hSw); go_simp; (try with_reducible rfl))
                      (try simp only [Act.put, List.setIfInBounds_toArray, List.set_cons_zero, List.set_cons_succ])
                      refine wpAnyH_take (i := 2) (oi := _) (v := ?_) (by simp only [List.getElem?_toArray, List.getElem?_cons_succ, List.getElem?_cons_zero]; rfl) (by kernel_rfl) (by kernel_rfl) (by kernel_rfl) (by exact fun _ _ _ h => h) (Or.inl ⟨by rfl, ?hy⟩) (by assumption) ?_
                      case hy => (intro w hSw; (try dsimp only at hSw); go_simp; (try with_reducible rfl))
                      (try simp only [Act.put, List.setIfInBounds_toArray, List.set_cons_zero, List.set_cons_succ])
                      refine wpAnyH_ready (rs := [1, 3]) (by kernel_rfl) (by simp) ?_
                      refine AllReadyH.cons (o := _) (by simp only [List.getElem?_toArray, List.getElem?_cons_succ, List.getElem?_cons_zero]; rfl) (fun KK hK => ?_) (AllReadyH.cons (o := _) (by simp only [List.getElem?_toArray, List.getElem?_cons_succ, List.getElem?_cons_zero]; rfl) (fun KK hK => ?_) AllReadyH.nil)
                      · go_simp
                        refine hK.out _ _ ?hs (fun hHeld => ?_)
                        case hs => ((try dsimp only); exact ⟨Fb.get (by repeat (first | with_reducible exact hF | with_reducible apply Fb.drew | with_reducible apply Fb.other)) (List.mem_cons_of_mem _ (List.mem_cons_of_mem _ (List.mem_cons_self ..))) rfl, Fb.get (by repeat (first | with_reducible exact hF | with_reducible apply Fb.drew | with_reducible apply Fb.other)) (List.mem_cons_of_mem _ (List.mem_cons_of_mem _ (List.mem_cons_self ..))) rfl, Fb.get (by repeat (first | with_reducible exact hF | with_reducible apply Fb.drew | with_reducible apply Fb.other)) (List.mem_cons_of_mem _ (List.mem_cons_of_mem _ (List.mem_cons_self ..))) rfl, Fb.get (by repeat (first | with_reducible exact hF | with_reducible apply Fb.drew | with_reducible apply Fb.other)) (List.mem_cons_of_mem _ (List.mem_cons_of_mem _ (List.mem_cons_self ..))) rfl, Fb.get (by repeat (first | with_reducible exact hF | with_reducible apply Fb.drew | with_reducible apply Fb.other)) (List.mem_cons_of_mem _ (List.mem_cons_of_mem _ (List.mem_cons_self ..))) rfl⟩)
                        clear hK KK
                        (try simp only [Act.put, List.setIfInBounds_toArray, List.set_cons_zero, List.set_cons_succ])
                        refine wpAnyH_ready (rs := [3]) (by kernel_rfl) (by simp) ?_
                        refine AllReadyH.cons (o := _) (by simp only [List.getElem?_toArray, List.getElem?_cons_succ, List.getElem?_cons_zero]; rfl) (fun KK hK => ?_) AllReadyH.nil
                        go_simp
                        (go_at_call 40; go_must (refine (l4Copy_any g c l2 _ _ PX MX _ (It.below HX.out.1 (Fb.kp (W := w) (by repeat (first | with_reducible exact hF | with_reducible apply Fb.drew | with_reducible apply Fb.other)))) (It.below HX.out.2 (Fb.kp (W := w) (by repeat (first | with_reducible exact hF | with_reducible apply Fb.drew | with_reducible apply Fb.other)))) (by have := HXs.out.1; omega) (by have := HXs.out.2; omega)).mono ?_); rintro e wy ⟨pv9, mv9, rfl, y1, y2, hby⟩; obtain ⟨oy1, cy1, rfl, -⟩ := y1.1.1.ex; obtain ⟨oy2, cy2, rfl, -⟩ := y2.1.1.ex; have hlo := hO.lt; have hsy := hby.size; simp only [World.size_drew] at hsy y1 y2; replace hF := Fb.below (by repeat (first | with_reducible exact hF | with_reducible apply Fb.drew | with_reducible apply Fb.other)) hby; replace hO := GO2.below (by repeat (first | with_reducible exact hO | with_reducible apply GO2.drew | with_reducible apply GO2.alloc)) hby; clear hby o; have o := hF.own; simp only [World.size_alloc, World.size_drew, World.size_setCell, List.mem_cons, List.not_mem_nil, or_false, forall_eq_or_imp, forall_eq, At, and_true, Nat.zero_add, Nat.reduceAdd, List.set_cons_zero, List.set_cons_succ] at o)
                        (try go_wp2_with fail)
                        refine hK.out _ _ ?hs (fun hHeld => ?_)
                        case hs => ((try dsimp only); exact ⟨Fb.get (by repeat (first | with_reducible exact hF | with_reducible apply Fb.drew | with_reducible apply Fb.other)) (List.mem_cons_of_mem _ (List.mem_cons_of_mem _ (List.mem_cons_self ..))) rfl, Fb.get (by repeat (first | with_reducible exact hF | with_reducible apply Fb.drew | with_reducible apply Fb.other)) (List.mem_cons_of_mem _ (List.mem_cons_of_mem _ (List.mem_cons_self ..))) rfl, Fb.get (by repeat (first | with_reducible exact hF | with_reducible apply Fb.drew | with_reducible apply Fb.other)) (List.mem_cons_of_mem _ (List.mem_cons_of_mem _ (List.mem_cons_self ..))) rfl, Fb.get (by repeat (first | with_reducible exact hF | with_reducible apply Fb.drew | with_reducible apply Fb.other)) (List.mem_cons_of_mem _ (List.mem_cons_of_mem _ (List.mem_cons_self ..))) rfl, Fb.get (by repeat (first | with_reducible exact hF | with_reducible apply Fb.drew | with_reducible apply Fb.other)) (List.mem_cons_of_mem _ (List.mem_cons_of_mem _ (List.mem_cons_self ..))) rfl⟩)
                        clear hK KK
                        (try simp only [Act.put, List.setIfInBounds_toArray, List.set_cons_zero, List.set_cons_succ])
                        refine wpAnyH_take (i := 4) (oi := _) (v := ?_) (by simp only [List.getElem?_toArray, List.getElem?_cons_succ, List.getElem?_cons_zero]; rfl) (by kernel_rfl) (by kernel_rfl) (by kernel_rfl) (by exact fun _ _ _ h => h) (Or.inl ⟨by rfl, ?hy⟩) (by assumption) ?_
                        case hy => (intro w hSw; (try dsimp only at hSw); go_simp; (try with_reducible rfl))
                        (try simp only [Act.put, List.setIfInBounds_toArray, List.set_cons_zero, List.set_cons_succ])
                        refine wpAnyH_ready (rs := [5]) (by kernel_rfl) (by simp) ?_
                        refine AllReadyH.cons (o := _) (by simp only [List.getElem?_toArray, List.getElem?_cons_succ, List.getElem?_cons_zero]; rfl) (fun KK hK => ?_) AllReadyH.nil
                        go_simp
                        refine hK.out _ _ ?hs (fun hHeld => ?_)
                        case hs => ((try dsimp only); exact ⟨Fb.get (by repeat (first | with_reducible exact hF | with_reducible apply Fb.drew | with_reducible apply Fb.other)) (List.mem_cons_of_mem _ (List.mem_cons_of_mem _ (List.mem_cons_self ..))) rfl, Fb.get (by repeat (first | with_reducible exact hF | with_reducible apply Fb.drew | with_reducible apply Fb.other)) (List.mem_cons_of_mem _ (List.mem_cons_of_mem _ (List.mem_cons_self ..))) rfl, Fb.get (by repeat (first | with_reducible exact hF | with_reducible apply Fb.drew | with_reducible apply Fb.other)) (List.mem_cons_of_mem _ (List.mem_cons_of_mem _ (List.mem_cons_self ..))) rfl, Fb.get (by repeat (first | with_reducible exact hF | with_reducible apply Fb.drew | with_reducible apply Fb.other)) (List.mem_cons_of_mem _ (List.mem_cons_of_mem _ (List.mem_cons_self ..))) rfl, Fb.get (by repeat (first | with_reducible exact hF | with_reducible apply Fb.drew | with_reducible apply Fb.other)) (List.mem_cons_of_mem _ (List.mem_cons_of_mem _ (List.mem_cons_self ..))) rfl⟩)
                        clear hK KK
                        (try simp only [Act.put, List.setIfInBounds_toArray, List.set_cons_zero, List.set_cons_succ])
                        refine wpAnyH_ready (rs := [6]) (by kernel_rfl) (by simp) ?_
                        refine AllReadyH.cons (o := _) (by simp only [List.getElem?_toArray, List.getElem?_cons_succ, List.getElem?_cons_zero]; rfl) (fun KK hK => ?_) AllReadyH.nil
                        (obtain ⟨ds, hOw, hG⟩ := hO; have hlG := hG.1; refine step_app (by rfl) _ _ 42 (by rfl) 48 (.agg #[.int .i64 0, .int .i64 0, .slice none 0 0, .int .i64 0, .slice none 0 0, .bool false]) 6 80 Tryd.underlying42 infoGt rfl (by decide) (by decide) (nb) encGt _ ds rfl (hOw.alloc _) (⟨g, c, l2, .slice oy1 PX.length cy1, .slice oy2 MX.length cy2, false⟩ : GtD) ⟨_, 0, none⟩ 1 rfl rfl (cells_new _ _ _) (by simp [encGt, Value.oneCell']) (by have := hnk.out; omega) (by simp only [World.size_alloc]; omega) ?_)
                        intro v9 wz hO9 hg9 hb9 hf9
                        have hO2 := g2_snoc (s := ((g, c, l2, PX, MX), false)) hG ((Below.refl _ _).alloc (Nat.le_refl _) _) hO9 hg9 hf9 (Sh.below (S := shGt) ⟨⟨rfl, rfl, rfl, rfl⟩, y1.1, y2.1⟩ ((Below.refl _ _).alloc (Nat.le_refl _) _)) (sub2 (fun g h => ⟨by have := y1.2 g h; omega, by have := y1.2 g h; simp only [World.size_alloc]; omega, fun e => by have := y1.2 g h; have := hlo g e; omega⟩) (fun g h => ⟨by have := y2.2 g h; omega, by have := y2.2 g h; simp only [World.size_alloc]; omega, fun e => by have := y2.2 g h; have := hlo g e; omega⟩))
                        have hsz9 := hb9.size
                        simp only [World.size_alloc] at hsz9
                        replace hF := (hF.other (.cells #[.int .i64 g, .int .i64 c, .slice oy1 PX.length cy1, .int .i64 l2, .slice oy2 MX.length cy2, .bool false] 48)).grownQ hg9 (fun g' hg => by have := hOw.ge g' hg; have := HN.out; omega) (fun p hp e => by have := hOw.ge _ e; simp only [List.mem_cons, List.not_mem_nil, or_false] at hp; rcases hp with rfl | rfl | rfl | rfl <;> simp only at this <;> omega)
                        obtain ⟨a9, c9, rfl⟩ := hO2.sl
                        obtain ⟨n9, hn9⟩ : ∃ n9, Hid ((K ++ [((g, c, l2, PX, MX), false)]).length = n9) := ⟨_, rfl⟩
                        rw [hn9.out] at hO2 ⊢
                        clear hg9 hb9 hf9 hO9 hOw hG o hlG
                        have o := hF.own; simp only [World.size_alloc, World.size_drew, World.size_setCell, List.mem_cons, List.not_mem_nil, or_false, forall_eq_or_imp, forall_eq, At, and_true, Nat.zero_add, Nat.reduceAdd, List.set_cons_zero, List.set_cons_succ] at o
                        refine hK.out _ _ ?hs (fun hHeld => ?_)
                        case hs => ((try dsimp only); exact ⟨Fb.get (by repeat (first | with_reducible exact hF | with_reducible apply Fb.drew | with_reducible apply Fb.other)) (List.mem_cons_of_mem _ (List.mem_cons_of_mem _ (List.mem_cons_self ..))) rfl, Fb.get (by repeat (first | with_reducible exact hF | with_reducible apply Fb.drew | with_reducible apply Fb.other)) (List.mem_cons_of_mem _ (List.mem_cons_of_mem _ (List.mem_cons_self ..))) rfl, Fb.get (by repeat (first | with_reducible exact hF | with_reducible apply Fb.drew | with_reducible apply Fb.other)) (List.mem_cons_of_mem _ (List.mem_cons_of_mem _ (List.mem_cons_self ..))) rfl, Fb.get (by repeat (first | with_reducible exact hF | with_reducible apply Fb.drew | with_reducible apply Fb.other)) (List.mem_cons_of_mem _ (List.mem_cons_of_mem _ (List.mem_cons_self ..))) rfl, Fb.get (by repeat (first | with_reducible exact hF | with_reducible apply Fb.drew | with_reducible apply Fb.other)) (List.mem_cons_of_mem _ (List.mem_cons_of_mem _ (List.mem_cons_self ..))) rfl⟩)
                        clear hK KK
                        (try simp only [Act.put, List.setIfInBounds_toArray, List.set_cons_zero, List.set_cons_succ])
                        refine wpAnyH_take (i := 7) (oi := _) (v := ?_) (by simp only [List.getElem?_toArray, List.getElem?_cons_succ, List.getElem?_cons_zero]; rfl) (by kernel_rfl) (by kernel_rfl) (by kernel_rfl) (by exact fun _ _ _ h => h) (Or.inl ⟨by rfl, ?hy⟩) (by assumption) ?_
                        case hy => (intro w hSw; (try dsimp only at hSw); go_simp; (try with_reducible rfl))
                        (try simp only [Act.put, List.setIfInBounds_toArray, List.set_cons_zero, List.set_cons_succ])
                        refine wpAnyH_ready (rs := [8]) (by kernel_rfl) (by simp) ?_
                        refine AllReadyH.cons (o := _) (by simp only [List.getElem?_toArray, List.getElem?_cons_succ, List.getElem?_cons_zero]; rfl) (fun KK hK => ?_) AllReadyH.nil
                        go_simp
                        replace hF := hF.set 2 (.slice a9 n9 c9) (by simp) (by simp <;> omega)
                        have hO := hO2.put (p := ⟨n6, 2, none⟩) (fun e => by have := hO2.ge _ e; dsimp only at this; omega) (by dsimp only; omega) (.slice a9 n9 c9)
                        refine hK.out _ _ ?hs (fun hHeld => ?_)
                        case hs => ((try dsimp only); exact ⟨Fb.get (by repeat (first | with_reducible exact hF | with_reducible apply Fb.drew | with_reducible apply Fb.other)) (List.mem_cons_of_mem _ (List.mem_cons_of_mem _ (List.mem_cons_self ..))) rfl, Fb.get (by repeat (first | with_reducible exact hF | with_reducible apply Fb.drew | with_reducible apply Fb.other)) (List.mem_cons_of_mem _ (List.mem_cons_of_mem _ (List.mem_cons_self ..))) rfl, Fb.get (by repeat (first | with_reducible exact hF | with_reducible apply Fb.drew | with_reducible apply Fb.other)) (List.mem_cons_of_mem _ (List.mem_cons_of_mem _ (List.mem_cons_self ..))) rfl, Fb.get (by repeat (first | with_reducible exact hF | with_reducible apply Fb.drew | with_reducible apply Fb.other)) (List.mem_cons_of_mem _ (List.mem_cons_of_mem _ (List.mem_cons_self ..))) rfl, Fb.get (by repeat (first | with_reducible exact hF | with_reducible apply Fb.drew | with_reducible apply Fb.other)) (List.mem_cons_of_mem _ (List.mem_cons_of_mem _ (List.mem_cons_self ..))) rfl⟩)
                        clear hK KK
                        (try simp only [Act.put, List.setIfInBounds_toArray, List.set_cons_zero, List.set_cons_succ])
                        refine wpAnyH_done (by kernel_rfl) ?_ _
                        clear hO2 o
                        have o := hF.own; simp only [World.size_alloc, World.size_drew, World.size_setCell, List.mem_cons, List.not_mem_nil, or_false, forall_eq_or_imp, forall_eq, At, and_true, Nat.zero_add, Nat.reduceAdd, List.set_cons_zero, List.set_cons_succ] at o
                        go_wp2_with fail
                        go_meet
                        case rel => exact ⟨false, _, K ++ [((g, c, l2, PX, MX), false)], rfl, by simp; omega, fun _ => (by simp; omega), smg_snoc hKs.out HXs.out, by simp only [World.size_setCell]; omega, hO, hF⟩
                      ·
                        go_simp
                        (go_at_call 40; go_must (refine (l4Copy_any g c l2 _ _ PX MX _ (It.below HX.out.1 (Fb.kp (W := w) (by repeat (first | with_reducible exact hF | with_reducible apply Fb.drew | with_reducible apply Fb.other)))) (It.below HX.out.2 (Fb.kp (W := w) (by repeat (first | with_reducible exact hF | with_reducible apply Fb.drew | with_reducible apply Fb.other)))) (by have := HXs.out.1; omega) (by have := HXs.out.2; omega)).mono ?_); rintro e wy ⟨pv9, mv9, rfl, y1, y2, hby⟩; obtain ⟨oy1, cy1, rfl, -⟩ := y1.1.1.ex; obtain ⟨oy2, cy2, rfl, -⟩ := y2.1.1.ex; have hlo := hO.lt; have hsy := hby.size; simp only [World.size_drew] at hsy y1 y2; replace hF := Fb.below (by repeat (first | with_reducible exact hF | with_reducible apply Fb.drew | with_reducible apply Fb.other)) hby; replace hO := GO2.below (by repeat (first | with_reducible exact hO | with_reducible apply GO2.drew | with_reducible apply GO2.alloc)) hby; clear hby o; have o := hF.own; simp only [World.size_alloc, World.size_drew, World.size_setCell, List.mem_cons, List.not_mem_nil, or_false, forall_eq_or_imp, forall_eq, At, and_true, Nat.zero_add, Nat.reduceAdd, List.set_cons_zero, List.set_cons_succ] at o)
                        (try go_wp2_with fail)
                        refine hK.out _ _ ?hs (fun hHeld => ?_)
                        case hs => ((try dsimp only); exact ⟨Fb.get (by repeat (first | with_reducible exact hF | with_reducible apply Fb.drew | with_reducible apply Fb.other)) (List.mem_cons_of_mem _ (List.mem_cons_of_mem _ (List.mem_cons_self ..))) rfl, Fb.get (by repeat (first | with_reducible exact hF | with_reducible apply Fb.drew | with_reducible apply Fb.other)) (List.mem_cons_of_mem _ (List.mem_cons_of_mem _ (List.mem_cons_self ..))) rfl, Fb.get (by repeat (first | with_reducible exact hF | with_reducible apply Fb.drew | with_reducible apply Fb.other)) (List.mem_cons_of_mem _ (List.mem_cons_of_mem _ (List.mem_cons_self ..))) rfl, Fb.get (by repeat (first | with_reducible exact hF | with_reducible apply Fb.drew | with_reducible apply Fb.other)) (List.mem_cons_of_mem _ (List.mem_cons_of_mem _ (List.mem_cons_self ..))) rfl, Fb.get (by repeat (first | with_reducible exact hF | with_reducible apply Fb.drew | with_reducible apply Fb.other)) (List.mem_cons_of_mem _ (List.mem_cons_of_mem _ (List.mem_cons_self ..))) rfl⟩)
                        clear hK KK
                        (try simp only [Act.put, List.setIfInBounds_toArray, List.set_cons_zero, List.set_cons_succ])
                        refine wpAnyH_take (i := 4) (oi := _) (v := ?_) (by simp only [List.getElem?_toArray, List.getElem?_cons_succ, List.getElem?_cons_zero]; rfl) (by kernel_rfl) (by kernel_rfl) (by kernel_rfl) (by exact fun _ _ _ h => h) (Or.inl ⟨by rfl, ?hy⟩) (by assumption) ?_
                        case hy => (intro w hSw; (try dsimp only at hSw); go_simp; (try with_reducible rfl))
                        (try simp only [Act.put, List.setIfInBounds_toArray, List.set_cons_zero, List.set_cons_succ])
                        refine wpAnyH_ready (rs := [1, 5]) (by kernel_rfl) (by simp) ?_
                        refine AllReadyH.cons (o := _) (by simp only [List.getElem?_toArray, List.getElem?_cons_succ, List.getElem?_cons_zero]; rfl) (fun KK hK => ?_) (AllReadyH.cons (o := _) (by simp only [List.getElem?_toArray, List.getElem?_cons_succ, List.getElem?_cons_zero]; rfl) (fun KK hK => ?_) AllReadyH.nil)
                        · go_simp
                          refine hK.out _ _ ?hs (fun hHeld => ?_)
                          case hs => ((try dsimp only); exact ⟨Fb.get (by repeat (first | with_reducible exact hF | with_reducible apply Fb.drew | with_reducible apply Fb.other)) (List.mem_cons_of_mem _ (List.mem_cons_of_mem _ (List.mem_cons_self ..))) rfl, Fb.get (by repeat (first | with_reducible exact hF | with_reducible apply Fb.drew | with_reducible apply Fb.other)) (List.mem_cons_of_mem _ (List.mem_cons_of_mem _ (List.mem_cons_self ..))) rfl, Fb.get (by repeat (first | with_reducible exact hF | with_reducible apply Fb.drew | with_reducible apply Fb.other)) (List.mem_cons_of_mem _ (List.mem_cons_of_mem _ (List.mem_cons_self ..))) rfl, Fb.get (by repeat (first | with_reducible exact hF | with_reducible apply Fb.drew | with_reducible apply Fb.other)) (List.mem_cons_of_mem _ (List.mem_cons_of_mem _ (List.mem_cons_self ..))) rfl, Fb.get (by repeat (first | with_reducible exact hF | with_reducible apply Fb.drew | with_reducible apply Fb.other)) (List.mem_cons_of_mem _ (List.mem_cons_of_mem _ (List.mem_cons_self ..))) rfl⟩)
                          clear hK KK
                          (try simp only [Act.put, List.setIfInBounds_toArray, List.set_cons_zero, List.set_cons_succ])
                          refine wpAnyH_ready (rs := [5]) (by kernel_rfl) (by simp) ?_
                          refine AllReadyH.cons (o := _) (by simp only [List.getElem?_toArray, List.getElem?_cons_succ, List.getElem?_cons_zero]; rfl) (fun KK hK => ?_) AllReadyH.nil
                          go_simp
                          refine hK.out _ _ ?hs (fun hHeld => ?_)
                          case hs => ((try dsimp only); exact ⟨Fb.get (by repeat (first | with_reducible exact hF | with_reducible apply Fb.drew | with_reducible apply Fb.other)) (List.mem_cons_of_mem _ (List.mem_cons_of_mem _ (List.mem_cons_self ..))) rfl, Fb.get (by repeat (first | with_reducible exact hF | with_reducible apply Fb.drew | with_reducible apply Fb.other)) (List.mem_cons_of_mem _ (List.mem_cons_of_mem _ (List.mem_cons_self ..))) rfl, Fb.get (by repeat (first | with_reducible exact hF | with_reducible apply Fb.drew | with_reducible apply Fb.other)) (List.mem_cons_of_mem _ (List.mem_cons_of_mem _ (List.mem_cons_self ..))) rfl, Fb.get (by repeat (first | with_reducible exact hF | with_reducible apply Fb.drew | with_reducible apply Fb.other)) (List.mem_cons_of_mem _ (List.mem_cons_of_mem _ (List.mem_cons_self ..))) rfl, Fb.get (by repeat (first | with_reducible exact hF | with_reducible apply Fb.drew | with_reducible apply Fb.other)) (List.mem_cons_of_mem _ (List.mem_cons_of_mem _ (List.mem_cons_self ..))) rfl⟩)
                          clear hK KK
                          (try simp only [Act.put, List.setIfInBounds_toArray, List.set_cons_zero, List.set_cons_succ])
                          refine wpAnyH_ready (rs := [6]) (by kernel_rfl) (by simp) ?_
                          refine AllReadyH.cons (o := _) (by simp only [List.getElem?_toArray, List.getElem?_cons_succ, List.getElem?_cons_zero]; rfl) (fun KK hK => ?_) AllReadyH.nil
                          (obtain ⟨ds, hOw, hG⟩ := hO; have hlG := hG.1; refine step_app (by rfl) _ _ 42 (by rfl) 48 (.agg #[.int .i64 0, .int .i64 0, .slice none 0 0, .int .i64 0, .slice none 0 0, .bool false]) 6 80 Tryd.underlying42 infoGt rfl (by decide) (by decide) (nb) encGt _ ds rfl (hOw.alloc _) (⟨g, c, l2, .slice oy1 PX.length cy1, .slice oy2 MX.length cy2, false⟩ : GtD) ⟨_, 0, none⟩ 1 rfl rfl (cells_new _ _ _) (by simp [encGt, Value.oneCell']) (by have := hnk.out; omega) (by simp only [World.size_alloc]; omega) ?_)
                          intro v9 wz hO9 hg9 hb9 hf9
                          have hO2 := g2_snoc (s := ((g, c, l2, PX, MX), false)) hG ((Below.refl _ _).alloc (Nat.le_refl _) _) hO9 hg9 hf9 (Sh.below (S := shGt) ⟨⟨rfl, rfl, rfl, rfl⟩, y1.1, y2.1⟩ ((Below.refl _ _).alloc (Nat.le_refl _) _)) (sub2 (fun g h => ⟨by have := y1.2 g h; omega, by have := y1.2 g h; simp only [World.size_alloc]; omega, fun e => by have := y1.2 g h; have := hlo g e; omega⟩) (fun g h => ⟨by have := y2.2 g h; omega, by have := y2.2 g h; simp only [World.size_alloc]; omega, fun e => by have := y2.2 g h; have := hlo g e; omega⟩))
                          have hsz9 := hb9.size
                          simp only [World.size_alloc] at hsz9
                          replace hF := (hF.other (.cells #[.int .i64 g, .int .i64 c, .slice oy1 PX.length cy1, .int .i64 l2, .slice oy2 MX.length cy2, .bool false] 48)).grownQ hg9 (fun g' hg => by have := hOw.ge g' hg; have := HN.out; omega) (fun p hp e => by have := hOw.ge _ e; simp only [List.mem_cons, List.not_mem_nil, or_false] at hp; rcases hp with rfl | rfl | rfl | rfl <;> simp only at this <;> omega)
                          obtain ⟨a9, c9, rfl⟩ := hO2.sl
                          obtain ⟨n9, hn9⟩ : ∃ n9, Hid ((K ++ [((g, c, l2, PX, MX), false)]).length = n9) := ⟨_, rfl⟩
                          rw [hn9.out] at hO2 ⊢
                          clear hg9 hb9 hf9 hO9 hOw hG o hlG
                          have o := hF.own; simp only [World.size_alloc, World.size_drew, World.size_setCell, List.mem_cons, List.not_mem_nil, or_false, forall_eq_or_imp, forall_eq, At, and_true, Nat.zero_add, Nat.reduceAdd, List.set_cons_zero, List.set_cons_succ] at o
                          refine hK.out _ _ ?hs (fun hHeld => ?_)
                          case hs => ((try dsimp only); exact ⟨Fb.get (by repeat (first | with_reducible exact hF | with_reducible apply Fb.drew | with_reducible apply Fb.other)) (List.mem_cons_of_mem _ (List.mem_cons_of_mem _ (List.mem_cons_self ..))) rfl, Fb.get (by repeat (first | with_reducible exact hF | with_reducible apply Fb.drew | with_reducible apply Fb.other)) (List.mem_cons_of_mem _ (List.mem_cons_of_mem _ (List.mem_cons_self ..))) rfl, Fb.get (by repeat (first | with_reducible exact hF | with_reducible apply Fb.drew | with_reducible apply Fb.other)) (List.mem_cons_of_mem _ (List.mem_cons_of_mem _ (List.mem_cons_self ..))) rfl, Fb.get (by repeat (first | with_reducible exact hF | with_reducible apply Fb.drew | with_reducible apply Fb.other)) (List.mem_cons_of_mem _ (List.mem_cons_of_mem _ (List.mem_cons_self ..))) rfl, Fb.get (by repeat (first | with_reducible exact hF | with_reducible apply Fb.drew | with_reducible apply Fb.other)) (List.mem_cons_of_mem _ (List.mem_cons_of_mem _ (List.mem_cons_self ..))) rfl⟩)
                          clear hK KK
                          (try simp only [Act.put, List.setIfInBounds_toArray, List.set_cons_zero, List.set_cons_succ])
                          refine wpAnyH_take (i := 7) (oi := _) (v := ?_) (by simp only [List.getElem?_toArray, List.getElem?_cons_succ, List.getElem?_cons_zero]; rfl) (by kernel_rfl) (by kernel_rfl) (by kernel_rfl) (by exact fun _ _ _ h => h) (Or.inl ⟨by rfl, ?hy⟩) (by assumption) ?_
                          case hy => (intro w hSw; (try dsimp only at hSw); go_simp; (try with_reducible rfl))
                          (try simp only [Act.put, List.setIfInBounds_toArray, List.set_cons_zero, List.set_cons_succ])
                          refine wpAnyH_ready (rs := [8]) (by kernel_rfl) (by simp) ?_
                          refine AllReadyH.cons (o := _) (by simp only [List.getElem?_toArray, List.getElem?_cons_succ, List.getElem?_cons_zero]; rfl) (fun KK hK => ?_) AllReadyH.nil
                          go_simp
                          replace hF := hF.set 2 (.slice a9 n9 c9) (by simp) (by simp <;> omega)
                          have hO := hO2.put (p := ⟨n6, 2, none⟩) (fun e => by have := hO2.ge _ e; dsimp only at this; omega) (by dsimp only; omega) (.slice a9 n9 c9)
                          refine hK.out _ _ ?hs (fun hHeld => ?_)
                          case hs => ((try dsimp only); exact ⟨Fb.get (by repeat (first | with_reducible exact hF | with_reducible apply Fb.drew | with_reducible apply Fb.other)) (List.mem_cons_of_mem _ (List.mem_cons_of_mem _ (List.mem_cons_self ..))) rfl, Fb.get (by repeat (first | with_reducible exact hF | with_reducible apply Fb.drew | with_reducible apply Fb.other)) (List.mem_cons_of_mem _ (List.mem_cons_of_mem _ (List.mem_cons_self ..))) rfl, Fb.get (by repeat (first | with_reducible exact hF | with_reducible apply Fb.drew | with_reducible apply Fb.other)) (List.mem_cons_of_mem _ (List.mem_cons_of_mem _ (List.mem_cons_self ..))) rfl, Fb.get (by repeat (first | with_reducible exact hF | with_reducible apply Fb.drew | with_reducible apply Fb.other)) (List.mem_cons_of_mem _ (List.mem_cons_of_mem _ (List.mem_cons_self ..))) rfl, Fb.get (by repeat (first | with_reducible exact hF | with_reducible apply Fb.drew | with_reducible apply Fb.other)) (List.mem_cons_of_mem _ (List.mem_cons_of_mem _ (List.mem_cons_self ..))) rfl⟩)
                          clear hK KK
                          (try simp only [Act.put, List.setIfInBounds_toArray, List.set_cons_zero, List.set_cons_succ])
                          refine wpAnyH_done (by kernel_rfl) ?_ _
                          clear hO2 o
                          have o := hF.own; simp only [World.size_alloc, World.size_drew, World.size_setCell, List.mem_cons, List.not_mem_nil, or_false, forall_eq_or_imp, forall_eq, At, and_true, Nat.zero_add, Nat.reduceAdd, List.set_cons_zero, List.set_cons_succ] at o
                          go_wp2_with fail
                          go_meet
                          case rel => exact ⟨false, _, K ++ [((g, c, l2, PX, MX), false)], rfl, by simp; omega, fun _ => (by simp; omega), smg_snoc hKs.out HXs.out, by simp only [World.size_setCell]; omega, hO, hF⟩
                        · go_simp
                          refine hK.out _ _ ?hs (fun hHeld => ?_)
                          case hs => ((try dsimp only); exact ⟨Fb.get (by repeat (first | with_reducible exact hF | with_reducible apply Fb.drew | with_reducible apply Fb.other)) (List.mem_cons_of_mem _ (List.mem_cons_of_mem _ (List.mem_cons_self ..))) rfl, Fb.get (by repeat (first | with_reducible exact hF | with_reducible apply Fb.drew | with_reducible apply Fb.other)) (List.mem_cons_of_mem _ (List.mem_cons_of_mem _ (List.mem_cons_self ..))) rfl, Fb.get (by repeat (first | with_reducible exact hF | with_reducible apply Fb.drew | with_reducible apply Fb.other)) (List.mem_cons_of_mem _ (List.mem_cons_of_mem _ (List.mem_cons_self ..))) rfl, Fb.get (by repeat (first | with_reducible exact hF | with_reducible apply Fb.drew | with_reducible apply Fb.other)) (List.mem_cons_of_mem _ (List.mem_cons_of_mem _ (List.mem_cons_self ..))) rfl, Fb.get (by repeat (first | with_reducible exact hF | with_reducible apply Fb.drew | with_reducible apply Fb.other)) (List.mem_cons_of_mem _ (List.mem_cons_of_mem _ (List.mem_cons_self ..))) rfl⟩)
                          clear hK KK
                          (try simp only [Act.put, List.setIfInBounds_toArray, List.set_cons_zero, List.set_cons_succ])
                          refine wpAnyH_ready (rs := [1]) (by kernel_rfl) (by simp) ?_
                          refine AllReadyH.cons (o := _) (by simp only [List.getElem?_toArray, List.getElem?_cons_succ, List.getElem?_cons_zero]; rfl) (fun KK hK => ?_) AllReadyH.nil
                          go_simp
                          refine hK.out _ _ ?hs (fun hHeld => ?_)
                          case hs => ((try dsimp only); exact ⟨Fb.get (by repeat (first | with_reducible exact hF | with_reducible apply Fb.drew | with_reducible apply Fb.other)) (List.mem_cons_of_mem _ (List.mem_cons_of_mem _ (List.mem_cons_self ..))) rfl, Fb.get (by repeat (first | with_reducible exact hF | with_reducible apply Fb.drew | with_reducible apply Fb.other)) (List.mem_cons_of_mem _ (List.mem_cons_of_mem _ (List.mem_cons_self ..))) rfl, Fb.get (by repeat (first | with_reducible exact hF | with_reducible apply Fb.drew | with_reducible apply Fb.other)) (List.mem_cons_of_mem _ (List.mem_cons_of_mem _ (List.mem_cons_self ..))) rfl, Fb.get (by repeat (first | with_reducible exact hF | with_reducible apply Fb.drew | with_reducible apply Fb.other)) (List.mem_cons_of_mem _ (List.mem_cons_of_mem _ (List.mem_cons_self ..))) rfl, Fb.get (by repeat (first | with_reducible exact hF | with_reducible apply Fb.drew | with_reducible apply Fb.other)) (List.mem_cons_of_mem _ (List.mem_cons_of_mem _ (List.mem_cons_self ..))) rfl⟩)
                          clear hK KK
                          (try simp only [Act.put, List.setIfInBounds_toArray, List.set_cons_zero, List.set_cons_succ])
                          refine wpAnyH_ready (rs := [6]) (by kernel_rfl) (by simp) ?_
                          refine AllReadyH.cons (o := _) (by simp only [List.getElem?_toArray, List.getElem?_cons_succ, List.getElem?_cons_zero]; rfl) (fun KK hK => ?_) AllReadyH.nil
                          (obtain ⟨ds, hOw, hG⟩ := hO; have hlG := hG.1; refine step_app (by rfl) _ _ 42 (by rfl) 48 (.agg #[.int .i64 0, .int .i64 0, .slice none 0 0, .int .i64 0, .slice none 0 0, .bool false]) 6 80 Tryd.underlying42 infoGt rfl (by decide) (by decide) (nb) encGt _ ds rfl (hOw.alloc _) (⟨g, c, l2, .slice oy1 PX.length cy1, .slice oy2 MX.length cy2, false⟩ : GtD) ⟨_, 0, none⟩ 1 rfl rfl (cells_new _ _ _) (by simp [encGt, Value.oneCell']) (by have := hnk.out; omega) (by simp only [World.size_alloc]; omega) ?_)
                          intro v9 wz hO9 hg9 hb9 hf9
                          have hO2 := g2_snoc (s := ((g, c, l2, PX, MX), false)) hG ((Below.refl _ _).alloc (Nat.le_refl _) _) hO9 hg9 hf9 (Sh.below (S := shGt) ⟨⟨rfl, rfl, rfl, rfl⟩, y1.1, y2.1⟩ ((Below.refl _ _).alloc (Nat.le_refl _) _)) (sub2 (fun g h => ⟨by have := y1.2 g h; omega, by have := y1.2 g h; simp only [World.size_alloc]; omega, fun e => by have := y1.2 g h; have := hlo g e; omega⟩) (fun g h => ⟨by have := y2.2 g h; omega, by have := y2.2 g h; simp only [World.size_alloc]; omega, fun e => by have := y2.2 g h; have := hlo g e; omega⟩))
                          have hsz9 := hb9.size
                          simp only [World.size_alloc] at hsz9
                          replace hF := (hF.other (.cells #[.int .i64 g, .int .i64 c, .slice oy1 PX.length cy1, .int .i64 l2, .slice oy2 MX.length cy2, .bool false] 48)).grownQ hg9 (fun g' hg => by have := hOw.ge g' hg; have := HN.out; omega) (fun p hp e => by have := hOw.ge _ e; simp only [List.mem_cons, List.not_mem_nil, or_false] at hp; rcases hp with rfl | rfl | rfl | rfl <;> simp only at this <;> omega)
                          obtain ⟨a9, c9, rfl⟩ := hO2.sl
                          obtain ⟨n9, hn9⟩ : ∃ n9, Hid ((K ++ [((g, c, l2, PX, MX), false)]).length = n9) := ⟨_, rfl⟩
                          rw [hn9.out] at hO2 ⊢
                          clear hg9 hb9 hf9 hO9 hOw hG o hlG
                          have o := hF.own; simp only [World.size_alloc, World.size_drew, World.size_setCell, List.mem_cons, List.not_mem_nil, or_false, forall_eq_or_imp, forall_eq, At, and_true, Nat.zero_add, Nat.reduceAdd, List.set_cons_zero, List.set_cons_succ] at o
                          refine hK.out _ _ ?hs (fun hHeld => ?_)
                          case hs => ((try dsimp only); exact ⟨Fb.get (by repeat (first | with_reducible exact hF | with_reducible apply Fb.drew | with_reducible apply Fb.other)) (List.mem_cons_of_mem _ (List.mem_cons_of_mem _ (List.mem_cons_self ..))) rfl, Fb.get (by repeat (first | with_reducible exact hF | with_reducible apply Fb.drew | with_reducible apply Fb.other)) (List.mem_cons_of_mem _ (List.mem_cons_of_mem _ (List.mem_cons_self ..))) rfl, Fb.get (by repeat (first | with_reducible exact hF | with_reducible apply Fb.drew | with_reducible apply Fb.other)) (List.mem_cons_of_mem _ (List.mem_cons_of_mem _ (List.mem_cons_self ..))) rfl, Fb.get (by repeat (first | with_reducible exact hF | with_reducible apply Fb.drew | with_reducible apply Fb.other)) (List.mem_cons_of_mem _ (List.mem_cons_of_mem _ (List.mem_cons_self ..))) rfl, Fb.get (by repeat (first | with_reducible exact hF | with_reducible apply Fb.drew | with_reducible apply Fb.other)) (List.mem_cons_of_mem _ (List.mem_cons_of_mem _ (List.mem_cons_self ..))) rfl⟩)
                          clear hK KK
                          (try simp only [Act.put, List.setIfInBounds_toArray, List.set_cons_zero, List.set_cons_succ])
                          refine wpAnyH_take (i := 7) (oi := _) (v := ?_) (by simp only [List.getElem?_toArray, List.getElem?_cons_succ, List.getElem?_cons_zero]; rfl) (by kernel_rfl) (by kernel_rfl) (by kernel_rfl) (by exact fun _ _ _ h => h) (Or.inl ⟨by rfl, ?hy⟩) (by assumption) ?_
                          case hy => (intro w hSw; (try dsimp only at hSw); go_simp; (try with_reducible rfl))
                          (try simp only [Act.put, List.setIfInBounds_toArray, List.set_cons_zero, List.set_cons_succ])
                          refine wpAnyH_ready (rs := [8]) (by kernel_rfl) (by simp) ?_
                          refine AllReadyH.cons (o := _) (by simp only [List.getElem?_toArray, List.getElem?_cons_succ, List.getElem?_cons_zero]; rfl) (fun KK hK => ?_) AllReadyH.nil
                          go_simp
                          replace hF := hF.set 2 (.slice a9 n9 c9) (by simp) (by simp <;> omega)
                          have hO := hO2.put (p := ⟨n6, 2, none⟩) (fun e => by have := hO2.ge _ e; dsimp only at this; omega) (by dsimp only; omega) (.slice a9 n9 c9)
                          refine hK.out _ _ ?hs (fun hHeld => ?_)
                          case hs => ((try dsimp only); exact ⟨Fb.get (by repeat (first | with_reducible exact hF | with_reducible apply Fb.drew | with_reducible apply Fb.other)) (List.mem_cons_of_mem _ (List.mem_cons_of_mem _ (List.mem_cons_self ..))) rfl, Fb.get (by repeat (first | with_reducible exact hF | with_reducible apply Fb.drew | with_reducible apply Fb.other)) (List.mem_cons_of_mem _ (List.mem_cons_of_mem _ (List.mem_cons_self ..))) rfl, Fb.get (by repeat (first | with_reducible exact hF | with_reducible apply Fb.drew | with_reducible apply Fb.other)) (List.mem_cons_of_mem _ (List.mem_cons_of_mem _ (List.mem_cons_self ..))) rfl, Fb.get (by repeat (first | with_reducible exact hF | with_reducible apply Fb.drew | with_reducible apply Fb.other)) (List.mem_cons_of_mem _ (List.mem_cons_of_mem _ (List.mem_cons_self ..))) rfl, Fb.get (by repeat (first | with_reducible exact hF | with_reducible apply Fb.drew | with_reducible apply Fb.other)) (List.mem_cons_of_mem _ (List.mem_cons_of_mem _ (List.mem_cons_self ..))) rfl⟩)
                          clear hK KK
                          (try simp only [Act.put, List.setIfInBounds_toArray, List.set_cons_zero, List.set_cons_succ])
                          refine wpAnyH_done (by kernel_rfl) ?_ _
                          clear hO2 o
                          have o := hF.own; simp only [World.size_alloc, World.size_drew, World.size_setCell, List.mem_cons, List.not_mem_nil, or_false, forall_eq_or_imp, forall_eq, At, and_true, Nat.zero_add, Nat.reduceAdd, List.set_cons_zero, List.set_cons_succ] at o
                          go_wp2_with fail
                          go_meet
                          case rel => exact ⟨false, _, K ++ [((g, c, l2, PX, MX), false)], rfl, by simp; omega, fun _ => (by simp; omega), smg_snoc hKs.out HXs.out, by simp only [World.size_setCell]; omega, hO, hF⟩
                  case rest =>
                    clear hO hF o hsz hKk hKp hKs hnk hnk1
                    obtain ⟨put, u, K, rfl, hKk, hKp, hKs, hsz, hO, hF⟩ := hcut
                    obtain ⟨au, cu, rfl⟩ := hO.sl
                    obtain ⟨nk, hnk⟩ : ∃ nk, Hid (K.length = nk) := ⟨_, rfl⟩
                    rw [hnk.out] at hO hF
                    replace hO := (hO.gown' (n1 + 3) (by omega) (by omega)).go3
                    have o := hF.own; simp only [World.size_alloc, World.size_drew, World.size_setCell, List.mem_cons, List.not_mem_nil, or_false, forall_eq_or_imp, forall_eq, At, and_true, Nat.zero_add, Nat.reduceAdd, List.set_cons_zero, List.set_cons_succ] at o
                    go_wp2_with fail
                    obtain ⟨wz, hwz, hG, hszz, hput⟩ := put3f (Fb.swpB hF) (by simp <;> omega) (.int .i64 H) (.bool true) (.slice au nk cu)
                    have hOz := hput _ _ _ _ _ _ (Or.inl (by omega)) hO
                    rw [← hwz]
                    clear hwz o hF hput
                    have hF := hG
                    have o := hF.own; simp only [World.size_alloc, World.size_drew, World.size_setCell, List.mem_cons, List.not_mem_nil, or_false, forall_eq_or_imp, forall_eq, At, and_true, Nat.zero_add, Nat.reduceAdd, List.set_cons_zero, List.set_cons_succ] at o
                    refine bodyPost_ret (v := .tuple #[.agg #[.int .i64 H, .bool true, (.slice au nk cu)], .bool true]) ?_ rfl ?_
                    · simp [results, Tryd.results98, go_sem, o]
                    · exact ⟨_, _, _, _, K, rfl, hOz.gown (Nat.le_of_eq hszz.symm) (by have := HN.out; omega), by omega, hKs.out, hG.kp⟩
      · have dx : (x5 != H) = true := by simp [hxH]
        clear hxH
        first | refine wp_region_new (by kernel_rfl) (by kernel_rfl) ?_ | refine wp_region_lex ?_
        repeat (any_goals (first | go_big_quiet_step ((first | (go_at_call 26; exact Calls.cl (cR.out _)) | (go_at_call 38; exact Calls.cl (cX.out _)))) | (refine wpQuiet_step (fun K hK => ?_); go_simp; split <;> (rename_i hg; refine hK _ ?_; clear hK K; simp only [hg, decide_true, decide_false]))))
        all_goals (refine wpQuiet_nil ?_; intro x)
        obtain ⟨wq, hbq⟩ := x
        dsimp only
        replace hF := hF.below hbq
        clear oc cR cX hbq
        have o := hF.own; simp only [World.size_alloc, World.size_drew, World.size_setCell, List.mem_cons, List.not_mem_nil, or_false, forall_eq_or_imp, forall_eq, At, and_true, Nat.zero_add, Nat.reduceAdd, List.set_cons_zero, List.set_cons_succ] at o
        go_wp2_with fail
        obtain ⟨wz, hwz, hG, -, -⟩ := put3f hF (by simp <;> omega) (.int .i64 0) (.bool false) (.slice none 0 0)
        rw [← hwz]
        clear hwz o hF
        have hF := hG
        have o := hF.own; simp only [World.size_alloc, World.size_drew, World.size_setCell, List.mem_cons, List.not_mem_nil, or_false, forall_eq_or_imp, forall_eq, At, and_true, Nat.zero_add, Nat.reduceAdd, List.set_cons_zero, List.set_cons_succ] at o
        refine bodyPost_ret (v := .tuple #[.agg #[.int .i64 0, .bool false, .slice none 0 0], .bool false]) ?_ rfl ?_
        · simp [results, Tryd.results98, go_sem, o]
        · exact ⟨_, _, _, _, [], rfl, ribR_nil _ _ hG.kp⟩
    · have cX := Lib.hid (fun z : Cl wa.heap.size wa => (show Calls Tryd.prog 38 #[.agg #[.int .i64 g, .int .i64 c, .slice o1 px p1, .int .i64 l2, .slice o2 mx m1]] z.W fun e w' => e = .returned (.bool false) ∧ Below z.W.heap.size z.W w' from by have := sRouteOk_any g c l2 _ _ PX MX z.W (It.below HX.out.1 (hF.cl z).kp).1 (It.below HX.out.2 (hF.cl z).kp).1; rwa [decide_eq_false hx] at this))
      clear hx
      first | refine wp_region_new (by kernel_rfl) (by kernel_rfl) ?_ | refine wp_region_lex ?_
      repeat (any_goals (first | go_big_quiet_step ((first | (go_at_call 26; exact Calls.cl (cR.out _)) | (go_at_call 38; exact Calls.cl (cX.out _)))) | (refine wpQuiet_step (fun K hK => ?_); go_simp; split <;> (rename_i hg; refine hK _ ?_; clear hK K; simp only [hg, decide_true, decide_false]))))
      all_goals (refine wpQuiet_nil ?_; intro x)
      obtain ⟨wq, hbq⟩ := x
      dsimp only
      replace hF := hF.below hbq
      clear oc cR cX hbq
      have o := hF.own; simp only [World.size_alloc, World.size_drew, World.size_setCell, List.mem_cons, List.not_mem_nil, or_false, forall_eq_or_imp, forall_eq, At, and_true, Nat.zero_add, Nat.reduceAdd, List.set_cons_zero, List.set_cons_succ] at o
      go_wp2_with fail
      obtain ⟨wz, hwz, hG, -, -⟩ := put3f hF (by simp <;> omega) (.int .i64 0) (.bool false) (.slice none 0 0)
      rw [← hwz]
      clear hwz o hF
      have hF := hG
      have o := hF.own; simp only [World.size_alloc, World.size_drew, World.size_setCell, List.mem_cons, List.not_mem_nil, or_false, forall_eq_or_imp, forall_eq, At, and_true, Nat.zero_add, Nat.reduceAdd, List.set_cons_zero, List.set_cons_succ] at o
      refine bodyPost_ret (v := .tuple #[.agg #[.int .i64 0, .bool false, .slice none 0 0], .bool false]) ?_ rfl ?_
      · simp [results, Tryd.results98, go_sem, o]
      · exact ⟨_, _, _, _, [], rfl, ribR_nil _ _ hG.kp⟩
  · have cR := Lib.hid (fun z : Cl wa.heap.size wa => (show Calls Tryd.prog 26 #[.agg #[.int .i64 H, .bool up, .slice ao n cap]] z.W fun e w' => e = .returned (.bool false) ∧ Below z.W.heap.size z.W w' from by have := sRibOk_any H up _ L z.W (GLs.below HV.out (hF.cl z).kp); rwa [decide_eq_false hq] at this))
    have cX : Hid True := trivial
    clear hq
    first | refine wp_region_new (by kernel_rfl) (by kernel_rfl) ?_ | refine wp_region_lex ?_
    repeat (any_goals (first | go_big_quiet_step ((first | (go_at_call 26; exact Calls.cl (cR.out _)) | (go_at_call 38; exact Calls.cl (cX.out _)))) | (refine wpQuiet_step (fun K hK => ?_); go_simp; split <;> (rename_i hg; refine hK _ ?_; clear hK K; simp only [hg, decide_true, decide_false]))))
    all_goals (refine wpQuiet_nil ?_; intro x)
    obtain ⟨wq, hbq⟩ := x
    dsimp only
    replace hF := hF.below hbq
    clear oc cR cX hbq
    have o := hF.own; simp only [World.size_alloc, World.size_drew, World.size_setCell, List.mem_cons, List.not_mem_nil, or_false, forall_eq_or_imp, forall_eq, At, and_true, Nat.zero_add, Nat.reduceAdd, List.set_cons_zero, List.set_cons_succ] at o
    go_wp2_with fail
    obtain ⟨wz, hwz, hG, -, -⟩ := put3f hF (by simp <;> omega) (.int .i64 0) (.bool false) (.slice none 0 0)
    rw [← hwz]
    clear hwz o hF
    have hF := hG
    have o := hF.own; simp only [World.size_alloc, World.size_drew, World.size_setCell, List.mem_cons, List.not_mem_nil, or_false, forall_eq_or_imp, forall_eq, At, and_true, Nat.zero_add, Nat.reduceAdd, List.set_cons_zero, List.set_cons_succ] at o
    refine bodyPost_ret (v := .tuple #[.agg #[.int .i64 0, .bool false, .slice none 0 0], .bool false]) ?_ rfl ?_
    · simp [results, Tryd.results98, go_sem, o]
    · exact ⟨_, _, _, _, [], rfl, ribR_nil _ _ hG.kp⟩
end Go.Proofs.YtonojegnbcgnaaaDoor
