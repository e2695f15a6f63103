/- FnSealLacks: the walk. append of any slice, nil or not, onto an owned row. A range of a number. -/
import Derived.Test.YtiocomefkckbfaaDoorZ23
import Derived.Test.YtiocomefkckbfaaDoorZ5
import Derived.Test.YtiocomefkckbfaaDoorZ8
set_option linter.unusedSimpArgs false
set_option linter.unusedVariables false
namespace Go.Proofs.YtiocomefkckbfaaDoor
open Go.RowKit Go.Maps Go.WideMaps

theorem lacks_bad {H : List HoldD} {L : List Sl} {ti g c lk : Int} {P M : List Int} (h : ¬ SMk ti g c lk P M) : lacks H L ti g c lk P M = -2 := if_neg h
theorem lacks_no1 {H : List HoldD} {L : List Sl} {ti g c lk : Int} {P M : List Int} (h : SMk ti g c lk P M) (hh : H.any (holdsP (lastP P) g c) = false) : lacks H L ti g c lk P M = -1 := by
  unfold lacks; rw [if_pos h, hh]; rfl
theorem lacks_lk {H : List HoldD} {L : List Sl} {ti g c lk : Int} {P M : List Int} (h : SMk ti g c lk P M) (hh : H.any (holdsP (lastP P) g c) = true) : lacks H L ti g c lk P M = lk9 L (mkN ti g c P P.length) := by
  unfold lacks; rw [if_pos h, if_pos hh]
theorem lk9_ge {L : List Sl} : ∀ {K : List Sl}, (∀ s ∈ K, 1 ≤ s.1) → 0 ≤ lk9 L K
  | [], _ => by simp [lk9]
  | s :: r, h => by
    simp only [lk9]
    split
    · exact lk9_ge (fun y hy => h y (List.mem_cons_of_mem _ hy))
    · have := h s (List.mem_cons_self ..); omega
theorem lacks_ne2 {H : List HoldD} {L : List Sl} {ti g c lk : Int} {P M : List Int} (h : SMk ti g c lk P M) : (lacks H L ti g c lk P M == -2) = false := by
  rw [beq_eq_false_iff_ne]
  by_cases hh : H.any (holdsP (lastP P) g c) = true
  · rw [lacks_lk h hh]
    have := lk9_ge (L := L) (K := mkN ti g c P P.length) (fun s hs => by obtain ⟨k, hk, rfl⟩ := mkN_mem hs; exact (h.pos hk).1)
    omega
  · rw [lacks_no1 h (by simpa using hh)]; omega
set_option maxRecDepth 100000 in
set_option maxHeartbeats 8000000 in
theorem FnSealLacks_walk (a0 : Option Addr) (n0 c0 : Nat) (a : Addr) (w : World) (h0 : Given w (.slice a0 n0 c0)) (hE : EPath w a) (htab : Tab w) :
    Calls Tryd.prog 8 #[.slice a0 n0 c0] w fun e w' => e = .returned (.bool true) ∧ Below w.heap.size w w' := by
  by_cases hn0 : 1048576 < n0
  · have e0 : decide (1048576 < (n0 : Int)) = true := by simp; omega
    go_enter Tryd.func8, Tryd.ntmps8
    go_wp2
    go_ret
    exact ⟨rfl, Below.refl _ _⟩
  have e0 : decide (1048576 < (n0 : Int)) = false := by simp; omega
  have hF := Fb.start w
  go_enter Tryd.func8, Tryd.ntmps8
  go_wp2_with fail
  refine (drawSealLacks_any _ _ h0).mono ?_; rintro e w1 ⟨hv, lv, pv, mv, H, L, g, c, lk, ti, P, M, rfl, hH, hS, hp, hm, hP4, hM9, hH5, hL8, hLs, ht0, ht6, hb1⟩
  clear h0
  obtain ⟨o1, c1, rfl, hnc, hcc, -⟩ := hp.ex
  obtain ⟨o2, c2, rfl, -⟩ := hm.ex
  replace hF := (hF.below hb1).alloc [.int .i64 g, .int .i64 c, .slice o1 P.length c1, .int .i64 lk, .slice o2 M.length c2] 35
  have hb2 := (Below.refl w1.heap.size w1).alloc (Nat.le_refl _) (.cells #[.int .i64 g, .int .i64 c, .slice o1 P.length c1, .int .i64 lk, .slice o2 M.length c2] 35)
  replace hp := Rows.below hp hb2
  replace hm := Rows.below hm hb2
  replace hH := hH.below hb2
  replace hS := hS.below hb2
  replace hE := (hE.below hb1).below hb2
  replace htab := tab_below (tab_below htab hb1) hb2
  obtain ⟨n5, hn5⟩ : ∃ n, w1.heap.size = n := ⟨_, rfl⟩
  rw [hn5] at hF
  clear hb1 hb2
  have HLs := Lib.hid hLs
  clear hLs
  have o := hF.own; simp only [World.size_alloc, World.size_drew, World.size_setCell, List.mem_cons, List.not_mem_nil, or_false, forall_eq_or_imp, forall_eq, At, and_true, Nat.zero_add, Nat.reduceAdd, List.set_cons_zero, List.set_cons_succ] at o
  have HP4 := Lib.hid hP4
  have hPl := hP4.1
  clear hP4
  go_wp2_with fail
  go_fit (iSealLacks_any hv lv H L g c lk _ _ P M ti a _ hH hS hp hm hE htab (by omega) (by omega) HLs.out); rintro e w2 ⟨rfl, hb2⟩
  replace hF := hF.below hb2
  replace hp := Rows.below hp hb2
  replace hm := Rows.below hm hb2
  replace hE := hE.below hb2
  replace htab := tab_below htab hb2
  replace hH := hH.below hb2
  replace hS := hS.below hb2
  clear o hb2
  have o := hF.own; simp only [World.size_alloc, World.size_drew, World.size_setCell, List.mem_cons, List.not_mem_nil, or_false, forall_eq_or_imp, forall_eq, At, and_true, Nat.zero_add, Nat.reduceAdd, List.set_cons_zero, List.set_cons_succ] at o
  go_wp2_with fail
  go_fit (sSealLacks_any hv lv H L g c lk _ _ P M ti _ hH hS hp hm (by omega)); rintro e w3 ⟨rfl, hb3⟩
  replace hF := hF.below hb3
  replace hp := Rows.below hp hb3
  replace hm := Rows.below hm hb3
  replace hE := hE.below hb3
  replace htab := tab_below htab hb3
  replace hH := hH.below hb3
  replace hS := hS.below hb3
  clear o hb3
  have o := hF.own; simp only [World.size_alloc, World.size_drew, World.size_setCell, List.mem_cons, List.not_mem_nil, or_false, forall_eq_or_imp, forall_eq, At, and_true, Nat.zero_add, Nat.reduceAdd, List.set_cons_zero, List.set_cons_succ] at o
  by_cases k1 : SMk ti g c lk P M
  · have hne := lacks_ne2 (H := H) (L := L) k1
    obtain ⟨N, hN⟩ : ∃ N, lacks H L ti g c lk P M = N := ⟨_, rfl⟩
    rw [hN] at hne ⊢
    have hNN : (N != N) = false := by simp
    have HN := Lib.hid hN
    have HK := Lib.hid k1
    have hn0 : 0 < P.length := k1.1.2.1
    obtain ⟨b, off, rfl⟩ := Ints.some hp hn0
    obtain ⟨x, hx⟩ := get_lt (show P.length - 1 < P.length by omega)
    have hxl : Hid (lastP P = x) := getD_of hx
    have cx := Ints.get hp hx
    clear k1 hN hx
    go_wp2
    have cxz := fun z : Cl w3.heap.size w3 => z.cell cx
    have HVz := Lib.hid (fun z : Cl w3.heap.size w3 => hH.below z.below)
    have oc := fun x : Cl _ w3 => (Fb.cl hF x).own; simp only [World.size_alloc, World.size_drew, World.size_setCell, List.mem_cons, List.not_mem_nil, or_false, forall_eq_or_imp, forall_eq, At, and_true, Nat.zero_add, Nat.reduceAdd, List.set_cons_zero, List.set_cons_succ] at oc
    have d1 : ((P.length : Int) - 1).toNat = P.length - 1 := by omega
    have d2 : IntKind.i64.wrap ((P.length : Int) - 1) = (P.length : Int) - 1 := IntWalk.i64_in _ (by omega)
    have d3 : (0 : Int) ≤ (P.length : Int) - 1 := by omega
    have d4 : (P.length : Int) - 1 < (P.length : Int) := by omega
    obtain ⟨hb, hbe⟩ : ∃ z, H.any (holdsP x g c) = z := ⟨_, rfl⟩
    have hCz := Lib.hid (fun z : Cl w3.heap.size w3 => (show Calls Tryd.prog 25 #[hv, .int .i64 x, .agg #[.int .i64 g, .int .i64 c]] z.W fun e w' => e = .returned (.bool hb) ∧ Below z.W.heap.size z.W w' from by have := iHoldHas_any hv H x g c z.W (HVz.out z); rwa [hbe] at this))
    rw [← hxl.out] at hbe
    have HBE := Lib.hid hbe
    clear hbe HVz cx o
    cases hb with
    | false =>
      have hN1 : N = -1 := HN.out.symm.trans (lacks_no1 HK.out HBE.out)
      subst hN1
      first | refine wp_region_new (by kernel_rfl) (by kernel_rfl) ?_ | refine wp_region_lex ?_
      repeat (any_goals (first | go_big_quiet_step (((go_at_call 25; exact Calls.cl (hCz.out _)))) | (refine wpQuiet_step (fun K hK => ?_); go_simp; split <;> (rename_i hg; refine hK _ ?_; clear hK K; simp only [hg, decide_true, decide_false]))))
      all_goals (refine wpQuiet_nil ?_; intro x)
      go_wp2
      go_ret
      exact ⟨rfl, (hF.cl x).kp⟩
    | true =>
      have hN1 : Hid (lk9 L (mkN ti g c P P.length) = N) := (lacks_lk HK.out HBE.out).symm.trans HN.out
      first | refine wp_region_new (by kernel_rfl) (by kernel_rfl) ?_ | refine wp_region_lex ?_
      repeat (any_goals (first | go_big_quiet_step (((go_at_call 25; exact Calls.cl (hCz.out _)))) | (refine wpQuiet_step (fun K hK => ?_); go_simp; split <;> (rename_i hg; refine hK _ ?_; clear hK K; simp only [hg, decide_true, decide_false]))))
      all_goals (refine wpQuiet_nil ?_; intro x)
      have hbx := x.below
      replace hF := hF.below hbx
      replace hp := Rows.below hp hbx
      replace hm := Rows.below hm hbx
      replace hE := hE.below hbx
      replace htab := tab_below htab hbx
      replace hH := hH.below hbx
      replace hS := hS.below hbx
      clear hbx hCz cxz oc d1 d2 d3 d4 hNN hne
      have o := hF.own; simp only [World.size_alloc, World.size_drew, World.size_setCell, List.mem_cons, List.not_mem_nil, or_false, forall_eq_or_imp, forall_eq, At, and_true, Nat.zero_add, Nat.reduceAdd, List.set_cons_zero, List.set_cons_succ] at o
      go_wp2_with fail
      go_fit (iSealMake_any g c lk _ _ P M ti a _ hp hm hE (by omega)); rintro e w5 ⟨u, rfl, hO, hb5⟩
      have hq : sealsOf ti g c lk P M = mkN ti g c P P.length := if_pos HK.out
      rw [hq] at hO
      obtain ⟨us, uc, rfl⟩ := hO.sl
      have HM := Lib.hid (HK.out.sm (by omega) (Nat.le_refl _))
      rw [mkN_len] at hO ⊢
      clear hq
      replace hF := hF.below hb5
      replace hp := Rows.below hp hb5
      replace hm := Rows.below hm hb5
      replace hE := hE.below hb5
      replace htab := tab_below htab hb5
      replace hH := hH.below hb5
      replace hS := hS.below hb5
      clear o hb5
      have o := hF.own; simp only [World.size_alloc, World.size_drew, World.size_setCell, List.mem_cons, List.not_mem_nil, or_false, forall_eq_or_imp, forall_eq, At, and_true, Nat.zero_add, Nat.reduceAdd, List.set_cons_zero, List.set_cons_succ] at o
      go_wp2
      have HC := Lib.hid (⟨o.1.1, o.1.2.2.1, o.1.2.2.2.2.1, o.1.2.2.2.2.2.2.1, o.1.2.2.2.2.2.2.2.2.1⟩ : w5.cell? ⟨n5, 0, none⟩ = some (.int .i64 g) ∧ w5.cell? ⟨n5, 1, none⟩ = some (.int .i64 c) ∧ w5.cell? ⟨n5, 2, none⟩ = some (.slice (some ⟨b, off, none⟩) P.length c1) ∧ w5.cell? ⟨n5, 3, none⟩ = some (.int .i64 lk) ∧ w5.cell? ⟨n5, 4, none⟩ = some (.slice o2 M.length c2))
      have HO := Lib.hid hO.sls
      have HS := Lib.hid hS
      have HH := Lib.hid hH
      have HP := Lib.hid hp
      have HMv := Lib.hid hm
      have HE := Lib.hid hE
      have HT := Lib.hid htab
      have HF := Lib.hid hF.kp
      have hQ := Fb.start w5
      clear hO hS hH hp hm hE htab hF o
      go_loopw [9] (fun i wr => ∃ (k : Nat), k ≤ P.length ∧ i = .int .i64 k ∧ Hid (∀ s ∈ (mkN ti g c P P.length).take k, s ∈ L) ∧ Fb w5 wr []) (fun i _ => P.length - (intOf i).toNat)
      case atStart => exact ⟨0, Nat.zero_le _, rfl, fun s h => (by simp at h), hQ⟩
      case round =>
        clear hQ
        obtain ⟨k, hk, rfl, hA, hQ⟩ := hrel
        by_cases hlt : k < P.length
        · obtain ⟨b1, p1, rfl⟩ := HO.out.adr (by omega)
          obtain ⟨s, hsk⟩ : ∃ s, (mkN ti g c P P.length)[k]? = some s := ⟨_, mkN_at hlt⟩
          obtain ⟨a1, m1, k1, s0, s1, s2, s3, s4, g1⟩ := (HO.out.below hQ.kp).at hsk
          have hsm := Lib.hid (HM.out s (List.mem_of_getElem? hsk))
          have HK1 := Lib.hid hsk
          have HG := Lib.hid g1
          clear hsk g1
          have cI := iSealHas_any lv _ L s wr (HS.out.below hQ.kp) HG.out (by omega) HLs.out hsm.out (tab_below HT.out hQ.kp)
          by_cases hin : s ∈ L
          · rw [decide_eq_true hin] at cI
            have CI := Lib.hid cI
            have hA2 : Hid (∀ s ∈ (mkN ti g c P P.length).take (k + 1), s ∈ L) := all_snoc hA.out HK1.out hin
            clear hin cI
            go_wp2_with fail
            go_fit CI.out; rintro e wy ⟨rfl, hby⟩
            replace hQ := hQ.below hby
            clear hby s0 s1 s2 s3 s4
            go_wp2
            go_roundw
            case rel => exact ⟨k + 1, by omega, by go_num, hA2, hQ⟩
            case measure => simp [intOf]; omega
          · rw [decide_eq_false hin] at cI
            have CI := Lib.hid cI
            have hr1 : Hid (s.1 = N) := (lk9_at hA.out HK1.out hin).symm.trans hN1.out
            clear hin cI
            go_wp2_with fail
            go_fit CI.out; rintro e wy ⟨rfl, hby⟩
            replace s0 := (hby.cell (World.block_lt_of_cell? _ _ s0)).trans s0
            rw [hr1.out] at s0
            have dN : (N == N) = true := by simp
            replace hQ := hQ.below hby
            clear hby s1 s2 s3 s4 hr1
            go_wp2
            go_ret
            exact ⟨rfl, HF.out.trans (hQ.kp.mono HF.out.size)⟩
        · have hr1 : N = 0 := hN1.out.symm.trans (lk9_all (by have := hA.out; rwa [List.take_of_length_le (by rw [mkN_len]; omega)] at this))
          subst hr1
          have e0 := hQ.old HC.out.1
          have e1 := hQ.old HC.out.2.1
          have e2 := hQ.old HC.out.2.2.1
          have e3 := hQ.old HC.out.2.2.2.1
          have e4 := hQ.old HC.out.2.2.2.2
          have cI := iSealOk_any hv lv H L g c lk _ _ P M ti a wr (HH.out.below hQ.kp) (HS.out.below hQ.kp) (Rows.below HP.out hQ.kp) (Rows.below HMv.out hQ.kp) (HE.out.below hQ.kp) (tab_below HT.out hQ.kp) (by omega) (by omega) HLs.out
          rw [HN.out] at cI
          have CI := Lib.hid cI
          clear cI
          go_wp2_with fail
          go_fit CI.out; rintro e wy ⟨rfl, hby⟩
          replace hQ := hQ.below hby
          clear hby
          go_wp2
          go_ret
          exact ⟨rfl, HF.out.trans (hQ.kp.mono HF.out.size)⟩
  · have hN := lacks_bad (H := H) (L := L) k1
    rw [hN]
    clear k1
    go_wp2_with fail
    go_fit (sSealLacks_any hv lv H L g c lk _ _ P M ti _ hH hS hp hm (by omega)); rintro e w4 ⟨rfl, hb4⟩
    replace hF := hF.below hb4
    clear hb4
    rw [hN]
    clear hN
    go_wp2
    go_ret
    exact ⟨rfl, hF.kp⟩
end Go.Proofs.YtiocomefkckbfaaDoor
set_option linter.unusedSimpArgs false
set_option linter.unusedVariables false
namespace Go.Proofs.YtiocomefkckbfaaDoor
open Go Go.RowKit

theorem run_app_none {P : Program} (w : World) (t ty E : TypeId) (i : TypeInfo) (ht : P.underlying t = some (.slice E)) (hi : P.info? E = some i) (base size n c : Nat) (v : Value) (xs : List Value) (h : w.ownsRow base E size v n xs) :
    (Builtin.append_ #[t, t] ty #[v, .slice none 0 c]).run P w = .ok v w := by
  obtain ⟨h1, ⟨rfl, h2⟩ | ⟨g, cap, cur, rfl, _, _, h4, _⟩⟩ := h
  · simp [Builtin.append_, run_underlying ht, sizeOf, typeInfo, hi, Builtin.lenOf, Builtin.firstCells]
  · simp [Builtin.append_, run_underlying ht, sizeOf, typeInfo, hi, Builtin.lenOf, Builtin.firstCells, storeCells, h4]
theorem run_appsZ {α : Type} {P : Program} {w : World} (t ty E : TypeId) (z : Value) (sz bytes : Nat) (ht : P.underlying t = some (.slice E)) (hI : (P.info? E).map (fun i => (i.zero, i.size, i.bytes)) = some (some z, sz, bytes)) (hzs : z.cells.size = sz) (hsz : 0 < sz) (hby : bytes ≤ 1000)
    (B : Nat) (enc : α → List Value) (hen : ∀ x, (enc x).length = sz) (v : Value) (L : List α) (hown : Own E w B v sz enc L)
    (xv : Value) (K : List α) (hone : ∀ x ∈ K, ∀ u ∈ enc x, u.oneCell' = true) (hK : Rows w xv sz enc K) (hlen : L.length + K.length ≤ 1000000) (hB : B ≤ w.heap.size) :
    ∃ v' w', (Builtin.append_ #[t, t] ty #[v, xv]).run P w = .ok v' w' ∧ Own E w' B v' sz enc (L ++ K) ∧ w.grownBy w' v.ownBlock ∧ Below B w w' ∧ Frsh w v v' := by
  obtain ⟨i, hi, hz, hsize, hbytes⟩ := info_parts hI
  obtain ⟨ao, cap, rfl, h1, h2, h3⟩ := hK.ex
  have hm : L.length + K.length ≤ maxLen := by unfold maxLen; omega
  have hb : (L.length + K.length) * bytes ≤ 140737488355328 := Nat.le_trans (Nat.mul_le_mul (show L.length + K.length ≤ 1000001 by omega) hby) (by omega)
  cases ao with
  | none =>
    have hk : K = [] := by
      cases K with
      | nil => rfl
      | cons y K => obtain ⟨b, off, e, _⟩ := h3 0 y rfl; cases e
    subst hk
    refine ⟨v, w, run_app_none w t ty E i ht hi B sz L.length cap v _ hown, by simpa using hown, ⟨rfl, rfl, rfl, Nat.le_refl _, fun _ _ _ => rfl⟩, Below.refl _ _, Or.inl rfl⟩
  | some ad =>
    have hfl : (K.flatMap enc).length = K.length * sz := flat_len hen K
    have hone' : ∀ u ∈ K.flatMap enc, u.oneCell' = true := fun u hu => by
      obtain ⟨y, hy1, hy⟩ := List.mem_flatMap.1 hu
      exact hone y hy1 u hy
    have hnews : ∀ j u, (K.flatMap enc)[j]? = some u → w.cell? (ad.add j) = some u := fun j u hj => by
      obtain ⟨k, x, q, hk, hq, e⟩ := flat_at hen K j u hj
      obtain ⟨b, off, e1, hc⟩ := h3 k x hk
      injection e1 with e1
      subst e1
      rw [addr_add', e, ← Nat.add_assoc]
      exact hc q u hq
    obtain ⟨v', w', hr, k2, k3, k4⟩ := run_append_own (P := P) w B t ty E i z sz bytes ht hi hz hsize hbytes hzs hsz v L.length (L.flatMap enc) hown ad K.length cap (K.flatMap enc) hfl hnews hone' hm hb hB
    have hf := append_block0 (P := P) (w := w) B t ty E i z sz bytes ht hi hz hsize hbytes v L.length (L.flatMap enc) hown ad K.length cap (K.flatMap enc) hfl hnews hone' hm hb hr
    exact ⟨v', w', hr, by unfold Own; rw [List.length_append, List.flatMap_append]; exact k2, k3, own_grown hown k3 hB, hf⟩
theorem step_appsZ {α : Type} {P : Program} {ops : Array Oper} {o : Oper} {a : Act} {w : World} {K : Act → World → Prop} {Q : Exit → Act → World → Prop} {F : Prop} (hw : Region.wanted o (yielded ops a.tmps) = true) (s x : Operand) (t : TypeId)
    (ho : o.op = .call { callee := .builtin .append, args := #[s, x], argTypes := #[t, t] })
    (E : TypeId) (z : Value) (sz bytes : Nat) (ht : P.underlying t = some (.slice E)) (hI : (P.info? E).map (fun i => (i.zero, i.size, i.bytes)) = some (some z, sz, bytes)) (hzs : z.cells.size = sz) (hsz : 0 < sz) (hby : bytes ≤ 1000)
    (B : Nat) (enc : α → List Value) (hen : ∀ x, (enc x).length = sz) (v : Value) (L : List α) (hs : a.eval s = v) (hown : Own E w B v sz enc L)
    (xv : Value) (K2 : List α) (hone : ∀ x ∈ K2, ∀ u ∈ enc x, u.oneCell' = true) (hx : a.eval x = xv) (hK : Rows w xv sz enc K2)
    (hlen : L.length + K2.length ≤ 1000000) (hB : B ≤ w.heap.size)
    (h : ∀ v' w', Own E w' B v' sz enc (L ++ K2) → w.grownBy w' v.ownBlock → Below B w w' → Frsh w v v' → K (a.put o.dst v') w') : if Region.wanted o (yielded ops a.tmps) = true then Oper.wp P o a w K Q else F := by
  rw [if_pos hw]
  obtain ⟨v', w', hr, h1, h2, h3, h4⟩ := run_appsZ (P := P) t o.type E z sz bytes ht hI hzs hsz hby B enc hen v L hown xv K2 hone hK hlen hB
  unfold Oper.wp execOp
  simp only [ho, resolve, invoke, builtin, Sem.run_bind, Sem.run_pure, Result.andThen_ok, List.map_toArray, List.map_cons, List.map_nil, hs, hx, hr]
  exact h v' w' h1 h2 h3 h4
theorem wpList_appsZ {α : Type} {P : Program} {ops : Array Oper} {rest : List Oper} {o : Oper} {a : Act} {w : World} {Q : Exit → Act → World → Prop} (hgd : o.guard = none) (s x : Operand) (t : TypeId)
    (ho : o.op = .call { callee := .builtin .append, args := #[s, x], argTypes := #[t, t] })
    (E : TypeId) (z : Value) (sz bytes : Nat) (ht : P.underlying t = some (.slice E)) (hI : (P.info? E).map (fun i => (i.zero, i.size, i.bytes)) = some (some z, sz, bytes)) (hzs : z.cells.size = sz) (hsz : 0 < sz) (hby : bytes ≤ 1000)
    (B : Nat) (enc : α → List Value) (hen : ∀ x, (enc x).length = sz) (v : Value) (L : List α) (hs : a.eval s = v) (hown : Own E w B v sz enc L)
    (xv : Value) (K2 : List α) (hone : ∀ x ∈ K2, ∀ u ∈ enc x, u.oneCell' = true) (hx : a.eval x = xv) (hK : Rows w xv sz enc K2)
    (hlen : L.length + K2.length ≤ 1000000) (hB : B ≤ w.heap.size)
    (h : ∀ v' w', Own E w' B v' sz enc (L ++ K2) → w.grownBy w' v.ownBlock → Below B w w' → Frsh w v v' → wpList P ops Q rest (a.put o.dst v') w') : wpList P ops Q (o :: rest) a w := by
  obtain ⟨v', w', hr, h1, h2, h3, h4⟩ := run_appsZ (P := P) t o.type E z sz bytes ht hI hzs hsz hby B enc hen v L hown xv K2 hone hK hlen hB
  refine wpList_plain hgd fun K hK => ?_
  unfold Oper.wp execOp
  simp only [ho, resolve, invoke, builtin, Sem.run_bind, Sem.run_pure, Result.andThen_ok, List.map_toArray, List.map_cons, List.map_nil, hs, hx, hr]
  exact hK _ _ (h v' w' h1 h2 h3 h4)
end Go.Proofs.YtiocomefkckbfaaDoor
set_option linter.unusedSimpArgs false
set_option linter.unusedVariables false
namespace Go.Proofs.YtiocomefkckbfaaDoor
open Go.RowKit

/-- The range of a number. -/
def lyF (n : Int) : Int := n * 37 % 256 / sz (n % 9) * sz (n % 9)
theorem lyRange_any (n : Nat) (hn : n ≤ 2000000) (w : World) :
    Calls Tryd.prog 29 #[.int .i64 n] w fun e w' => e = .returned (.agg #[.int .i64 (lyF n), .int .i64 ((n : Int) % 9)]) ∧ Below w.heap.size w w' := by
  have q0 : 0 ≤ (n : Int) % 9 := by omega
  have q1 : (n : Int) % 9 < 9 := by omega
  have q2 : 0 ≤ (n : Int) * 37 % 256 := by omega
  have q3 : (n : Int) * 37 % 256 < 256 := by omega
  obtain ⟨m, hm⟩ := Int.eq_ofNat_of_zero_le q0
  have hm1 : (n : Int) % 9 ≤ m := by omega
  have hm2 : (m : Int) ≤ (n : Int) % 9 := by omega
  have hm8 : m < 9 := by omega
  have HM := Lib.hid hm
  have s1 := sz_pos m
  have s2 := sz_le m (by omega)
  have z1 : 0 ≤ (n : Int) * 37 % 256 / sz m := Int.ediv_nonneg q2 (by omega)
  have z2 : (n : Int) * 37 % 256 / sz m * sz m ≤ (n : Int) * 37 % 256 := Int.ediv_mul_le _ (by omega)
  have z3 : 0 ≤ (n : Int) * 37 % 256 / sz m * sz m := Int.mul_nonneg z1 (by omega)
  have z4 : (n : Int) * 37 % 256 / sz m ≤ (n : Int) * 37 % 256 := Int.ediv_le_self _ q2
  have hly : lyF n = (n : Int) * 37 % 256 / sz m * sz m := by unfold lyF; rw [hm]
  have HL := Lib.hid hly
  clear hm hly
  go_enter Tryd.func29, Tryd.ntmps29
  go_wp2
  go_loop [4, 5] (fun s i => ∃ k : Nat, k ≤ m ∧ i = .int .i64 k ∧ s = .int .i64 (sz k)) (fun _ i => m - (intOf i).toNat)
  case atStart => exact ⟨0, Nat.zero_le _, rfl, rfl⟩
  case round =>
    obtain ⟨k, hk, rfl, rfl⟩ := hrel
    have h1 := sz_pos k
    have h2 := sz_le k (by omega)
    by_cases hlt : k < m
    · have hlt' : (k : Int) < (n : Int) % 9 := by omega
      go_wp2
      go_round
      case rel => exact ⟨k + 1, by omega, by go_num, by rw [← sz_step k (by omega)]; skip⟩
      case measure => simp [intOf]; omega
    · obtain rfl : k = m := by omega
      have hge : ¬ (k : Int) < (n : Int) % 9 := by omega
      go_wp2
      exact bodyPost_ret (v := .agg #[.int .i64 (lyF n), .int .i64 ((n : Int) % 9)]) (by simp [results, Tryd.results29, go_sem, HL.out]) rfl ⟨rfl, (by repeat (first | exact Below.refl _ _ | assumption | (refine Below.setCell ?_ (by dsimp only; omega) _) | (refine Below.alloc ?_ (by first | (simp only [World.size_alloc, World.size_setCell, World.size_drew]; omega) | omega) _) | apply Below.drew | (refine Below.trans ?_ (Below.mono (by assumption) (by first | (simp only [World.size_alloc, World.size_setCell, World.size_drew]; omega) | omega)))))⟩
end Go.Proofs.YtiocomefkckbfaaDoor
