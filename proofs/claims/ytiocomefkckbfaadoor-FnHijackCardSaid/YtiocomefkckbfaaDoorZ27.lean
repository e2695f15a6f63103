/- FnHijack: the walk. -/
import Derived.Test.YtiocomefkckbfaaDoorZ25
import Derived.Test.YtiocomefkckbfaaDoorZ26
set_option linter.unusedSimpArgs false
set_option linter.unusedVariables false
namespace Go.Proofs.YtiocomefkckbfaaDoor
open Go.RowKit Go.Maps Go.WideMaps

theorem SOwnU.below {w w' : World} {B U : Nat} {v : Value} {L : List Sl} (h : SOwnU w B U v L) (K : Below w.heap.size w w') : SOwnU w' B U v L := by
  obtain ⟨ds, h1, h2, h3⟩ := h; exact ⟨ds, h1.below K, h2.below K, h3⟩
theorem SOwnU.drew {w : World} {B U : Nat} {v : Value} {L : List Sl} (h : SOwnU w B U v L) : SOwnU w.drew B U v L := h.below (Below.refl _ _).drew
theorem SOwnU.far {w w' : World} {B U β : Nat} {v : Value} {L : List Sl} (h : SOwnU w B U v L) (hg : w.grownBy w' (some β)) (hβ : β < B ∨ U ≤ β) : SOwnU w' B U v L := by
  obtain ⟨ds, h1, h2, h3⟩ := h
  have key : ∀ u : Value, (∀ g, u.ownBlock = some g → B ≤ g ∧ g < U) → Apart u (.slice (some ⟨β, 0, none⟩) 0 0) := fun u hu g e1 e2 => by
    have := hu g e1
    simp [Value.ownBlock] at e2
    omega
  have hg' : w.grownBy w' (Value.slice (some ⟨β, 0, none⟩) 0 0).ownBlock := by simpa [Value.ownBlock] using hg
  refine ⟨ds, h1.grown hg' (key v (fun g e => ⟨h1.ge g e, h3 g e⟩)), ⟨h2.1, fun k s hk => ?_⟩, h3⟩
  obtain ⟨y, e1, e2, e3, e4⟩ := h2.2 k s hk
  exact ⟨y, e1, Rows.grown e2 hg' (key y e4), e3, e4⟩
theorem Sls.drew {w : World} {v : Value} {L : List Sl} (h : Sls w v L) : Sls w.drew v L := h.below (Below.refl _ _).drew
theorem smk_one {ti g c lk h v : Int} {P M : List Int} (k : SMk ti g c lk P M) (hh : Bts h 1 5) (hv : Bts v 1 5) : SMk v g c lk [h] M ↔ v ≠ h := by
  obtain ⟨⟨h1, h2, h3, h4, h5⟩, h6, h7⟩ := k
  constructor
  · rintro ⟨_, _, q⟩ e; exact q (by simp [e])
  · intro e
    exact ⟨⟨h1, by simp, ⟨fun x hx => by rw [List.mem_singleton.1 hx]; exact hh, by simp⟩, h4, h5⟩, hv, by simpa using e⟩
theorem hijack_no {ti g c lk h v : Int} {P M : List Int} {H : List HoldD} {K : List Sl} (k : SMk ti g c lk P M) (hh : Bts h 1 5) (hv : Bts v 1 5) (e : v = h) : (lacks H K v g c lk [h] M == 0) = false := by
  rw [lacks_bad (fun q => (smk_one k hh hv).1 q e)]; rfl
theorem hijack_yes {ti g c lk h v : Int} {P M : List Int} {H : List HoldD} {L : List Sl} (k : SMk ti g c lk P M) (hh : Bts h 1 5) (hv : Bts v 1 5) (e : v ≠ h) : (lacks H (L ++ sealsOf v g c lk [h] M) v g c lk [h] M == 0) = H.any (holdsP h g c) := by
  have hs := (smk_one k hh hv).2 e
  have hq : sealsOf v g c lk [h] M = mkN v g c [h] 1 := if_pos hs
  rw [Bool.eq_iff_iff, lacks_ok, hq]
  constructor
  · rintro ⟨_, q, _⟩; exact q
  · intro q
    exact ⟨hs, q, fun j hj => List.mem_append_right _ (List.mem_of_getElem? (mkN_at (n := 1) (by simpa using hj)))⟩
theorem hijack_sm {ti g c lk h v : Int} {P M : List Int} : ∀ s ∈ sealsOf v g c lk [h] M, SmS s := by
  unfold sealsOf; split
  · rename_i hk; exact hk.sm (by simp) (Nat.le_refl _)
  · simp
theorem SRel.allocS {w : World} {B U : Nat} {v : Value} {ds : List SlV} {L : List Sl} (h : SRel w B U v ds L) (o : Obj) : SRel (w.alloc o) B U v ds L := h.below ((Below.refl _ _).alloc (Nat.le_refl _) o)
theorem SRel.drewS {w : World} {B U : Nat} {v : Value} {ds : List SlV} {L : List Sl} (h : SRel w B U v ds L) : SRel w.drew B U v ds L := h.below (Below.refl _ _).drew
theorem SRel.farP {w w' : World} {B U β : Nat} {v : Value} {ds : List SlV} {L : List Sl} (h : SRel w B U v ds L) (hg : w.grownBy w' (some β)) (hβ : β < B ∨ U ≤ β) : ∀ (k : Nat) (s : Sl), L[k]? = some s → ∃ u : Value, ds[k]? = some (s.1, s.2.1, s.2.2.1, s.2.2.2.1, u) ∧ Ints w' u s.2.2.2.2 := fun k s hk => by
  obtain ⟨y, e1, e2, e3, e4⟩ := h.2 k s hk
  refine ⟨y, e1, Rows.grown e2 (u := .slice (some ⟨β, 0, none⟩) 0 0) (by simpa [Value.ownBlock] using hg) (fun g h1 h2 => ?_)⟩
  have := e4 g h1
  simp [Value.ownBlock] at h2
  omega
set_option maxRecDepth 100000 in
set_option maxHeartbeats 16000000 in
theorem FnHijack_walk (a0 a1 : Option Addr) (n0 c0 n1 d1 : Nat) (a : Addr) (w : World) (h0 : Given w (.slice a0 n0 c0)) (h1 : Given w (.slice a1 n1 d1)) (hE : EPath w a) (htab : Tab w) :
    Calls Tryd.prog 7 #[.slice a0 n0 c0, .slice a1 n1 d1] w fun e w' => e = .returned (.bool true) ∧ Below w.heap.size w w' := by
  by_cases hn0 : 1048576 < n0
  · have e0 : decide (1048576 < (n0 : Int)) = true := by simp; omega
    go_enter Tryd.func7, Tryd.ntmps7
    go_wp2
    go_ret
    exact ⟨rfl, Below.refl _ _⟩
  have e0 : decide (1048576 < (n0 : Int)) = false := by simp; omega
  by_cases hn1 : 1048576 < n1
  · have e1 : decide (1048576 < (n1 : Int)) = true := by simp; omega
    go_enter Tryd.func7, Tryd.ntmps7
    go_wp2
    go_ret
    exact ⟨rfl, Below.refl _ _⟩
  have e1 : decide (1048576 < (n1 : Int)) = false := by simp; omega
  have hF := Fb.start w
  go_enter Tryd.func7, Tryd.ntmps7
  go_wp2_with fail
  refine (drawSealLacks_any _ _ h0).mono ?_; rintro e w1 ⟨hv, lv, pv, mv, H, L, g, c, lk, ti, P, M, rfl, hH, hS, hp, hm, hP4, hM9, hH5, hL8, hLs, ht0, ht6, hb1⟩
  clear h0
  obtain ⟨o1, c1, rfl, hnc, hcc, -⟩ := hp.ex
  obtain ⟨o2, c2, rfl, -⟩ := hm.ex
  replace hF := (hF.below hb1).alloc [.int .i64 g, .int .i64 c, .slice o1 P.length c1, .int .i64 lk, .slice o2 M.length c2] 35
  have hb2 := (Below.refl w1.heap.size w1).alloc (Nat.le_refl _) (.cells #[.int .i64 g, .int .i64 c, .slice o1 P.length c1, .int .i64 lk, .slice o2 M.length c2] 35)
  replace hp := Rows.below hp hb2
  replace hm := Rows.below hm hb2
  replace hH := hH.below hb2
  replace hS := hS.below hb2
  replace hE := (hE.below hb1).below hb2
  replace htab := tab_below (tab_below htab hb1) hb2
  obtain ⟨n5, hn5⟩ : ∃ n, w1.heap.size = n := ⟨_, rfl⟩
  rw [hn5] at hF
  clear hb1 hb2
  have HLs := Lib.hid hLs
  clear hLs
  have o := hF.own; simp only [World.size_alloc, World.size_drew, World.size_setCell, List.mem_cons, List.not_mem_nil, or_false, forall_eq_or_imp, forall_eq, At, and_true, Nat.zero_add, Nat.reduceAdd, List.set_cons_zero, List.set_cons_succ] at o
  have HP4 := Lib.hid hP4
  have hPl := hP4.1
  clear hP4
  go_wp2_with fail
  go_fit (iSealLacks_any hv lv H L g c lk _ _ P M ti a _ hH hS hp hm hE htab (by omega) (by omega) HLs.out); rintro e w2 ⟨rfl, hb2⟩
  replace hF := hF.below hb2
  replace hp := Rows.below hp hb2
  replace hm := Rows.below hm hb2
  replace hE := hE.below hb2
  replace htab := tab_below htab hb2
  replace hH := hH.below hb2
  replace hS := hS.below hb2
  clear o hb2
  have o := hF.own; simp only [World.size_alloc, World.size_drew, World.size_setCell, List.mem_cons, List.not_mem_nil, or_false, forall_eq_or_imp, forall_eq, At, and_true, Nat.zero_add, Nat.reduceAdd, List.set_cons_zero, List.set_cons_succ] at o
  go_wp2_with fail
  go_fit (sSealLacks_any hv lv H L g c lk _ _ P M ti _ hH hS hp hm (by omega)); rintro e w3 ⟨rfl, hb3⟩
  replace hF := hF.below hb3
  replace hp := Rows.below hp hb3
  replace hm := Rows.below hm hb3
  replace hE := hE.below hb3
  replace htab := tab_below htab hb3
  replace hH := hH.below hb3
  replace hS := hS.below hb3
  clear o hb3
  have o := hF.own; simp only [World.size_alloc, World.size_drew, World.size_setCell, List.mem_cons, List.not_mem_nil, or_false, forall_eq_or_imp, forall_eq, At, and_true, Nat.zero_add, Nat.reduceAdd, List.set_cons_zero, List.set_cons_succ] at o
  by_cases k1 : SMk ti g c lk P M
  · have hne := lacks_ne2 (H := H) (L := L) k1
    obtain ⟨N, hN⟩ : ∃ N, lacks H L ti g c lk P M = N := ⟨_, rfl⟩
    rw [hN] at hne ⊢
    have hNN : (N != N) = false := by simp
    have HK := Lib.hid k1
    clear k1 hN
    obtain ⟨hz, hhz⟩ : ∃ hz : Int, 1 + (n1 : Int) % 5 = hz := ⟨_, rfl⟩
    have hh5 : Bts hz 1 5 := by unfold Bts; omega
    have HB5 := Lib.hid hh5
    have hh1 : 1 ≤ hz := by omega
    have hh2 : hz ≤ 5 := by omega
    have HE0 := Lib.hid hE
    have m0 : (0 : Int) ≤ (n1 : Int) := by omega
    clear hh5
    go_upto_region 8 with (fail)
    clear hhz hNN hne m0
    have hb4 := ((Below.refl w3.heap.size w3).alloc (Nat.le_refl _) (.cells #[.int .i64 hz] 3)).alloc (by simp) (.cells #[.int .i64 g, .int .i64 c, .slice (some ⟨w3.heap.size, 0, none⟩) 1 1, .int .i64 lk, .slice o2 M.length c2] 35)
    have hpf : Ints (w3.alloc (.cells #[.int .i64 hz] 3)) (.slice (some ⟨w3.heap.size, 0, none⟩) 1 1) [hz] := (Own.lit 3 w3 w3.heap.size 1 encI [hz] (fun _ => rfl) (Nat.le_refl _) (by simp)).rows (fun _ => rfl)
    replace hpf := Rows.alloc hpf (.cells #[.int .i64 g, .int .i64 c, .slice (some ⟨w3.heap.size, 0, none⟩) 1 1, .int .i64 lk, .slice o2 M.length c2] 35)
    have hFa := hF.other (.cells #[.int .i64 hz] 3)
    have oa := hFa.own
    simp only [World.size_alloc, World.size_drew, World.size_setCell, List.mem_cons, List.not_mem_nil, or_false, forall_eq_or_imp, forall_eq, At, and_true, Nat.zero_add, Nat.reduceAdd, List.set_cons_zero, List.set_cons_succ] at oa
    replace hF := hFa.alloc [.int .i64 g, .int .i64 c, .slice (some ⟨w3.heap.size, 0, none⟩) 1 1, .int .i64 lk, .slice o2 M.length c2] 35
    simp only [World.size_alloc] at hF
    obtain ⟨w4, hw4⟩ : ∃ w4 : World, w4 = (w3.alloc (.cells #[.int .i64 hz] 3)).alloc (.cells #[.int .i64 g, .int .i64 c, .slice (some ⟨w3.heap.size, 0, none⟩) 1 1, .int .i64 lk, .slice o2 M.length c2] 35) := ⟨_, rfl⟩
    rw [← hw4] at hb4 hpf hF
    clear hp hE
    have HE := Lib.hid (HE0.out.below hb4)
    have HMv := Lib.hid (Rows.below hm hb4)
    have HT := Lib.hid (tab_below htab hb4)
    have HH := Lib.hid (hH.below hb4)
    have HS := Lib.hid (hS.below hb4)
    have HPF := Lib.hid hpf
    obtain ⟨n7, hn7⟩ : ∃ n, w3.heap.size = n := ⟨_, rfl⟩
    rw [hn7] at hF HPF
    clear hm htab hH hS hpf hb4 hFa
    rw [hn7] at hw4
    go_wp2
    rw [← hw4]
    clear o oa
    have o := hF.own; simp only [World.size_alloc, World.size_drew, World.size_setCell, List.mem_cons, List.not_mem_nil, or_false, forall_eq_or_imp, forall_eq, At, and_true, Nat.zero_add, Nat.reduceAdd, List.set_cons_zero, List.set_cons_succ] at o
    have HF := Lib.hid hF.kp
    have HC := Lib.hid (show (w4.cell? ⟨n5, 0, none⟩ = some (.int .i64 g) ∧ w4.cell? ⟨n5, 1, none⟩ = some (.int .i64 c)) ∧ w4.cell? ⟨n7 + 1, 0, none⟩ = some (.int .i64 g) ∧ w4.cell? ⟨n7 + 1, 1, none⟩ = some (.int .i64 c) ∧ w4.cell? ⟨n7 + 1, 2, none⟩ = some (.slice (some ⟨n7, 0, none⟩) 1 1) ∧ w4.cell? ⟨n7 + 1, 3, none⟩ = some (.int .i64 lk) ∧ w4.cell? ⟨n7 + 1, 4, none⟩ = some (.slice o2 M.length c2) by simp [o])
    have hQ := Fb.start w4
    clear hF o hw4 hn7
    go_loopw [12] (fun s12 wr => ∃ k : Nat, 1 ≤ k ∧ k ≤ 6 ∧ s12 = .int .i64 (k : Int) ∧ Fb w4 wr []) (fun s12 _ => 6 - (intOf s12).toNat)
    case atStart => exact ⟨1, Nat.le_refl _, by omega, rfl, hQ⟩
    case round =>
      clear hQ
      obtain ⟨k, hk1, hk6, rfl, hQ4⟩ := hrel
      by_cases hk5 : k ≤ 5
      · have hle : (k : Int) ≤ 5 := by omega
        have K4 := hQ4.kp
        have HBk : Hid (Bts (k : Int) 1 5) := by show Bts _ _ _; unfold Bts; omega
        obtain ⟨K, hK⟩ : ∃ K, sealsOf (k : Int) g c lk [hz] M = K := ⟨_, rfl⟩
        have hKl : K.length ≤ 1 := by rw [← hK]; exact sealsOf_len (k : Int) g c lk [hz] M
        have hsmK : ∀ s ∈ L ++ K, SmS s := fun s hs => (List.mem_append.1 hs).elim (HLs.out s) (fun h => hijack_sm (ti := ti) (P := P) s (by rw [hK]; exact h))
        obtain ⟨dl, hRL, hlL, hpL⟩ := HS.out.ex
        have HRL := Lib.hid (hRL.below K4)
        have HOL := Lib.hid (sls_one hlL hpL)
        have HpL := Lib.hid (fun (j : Nat) (s : Sl) (hj : L[j]? = some s) => (show ∃ u : Value, dl[j]? = some (s.1, s.2.1, s.2.2.1, s.2.2.2.1, u) ∧ Ints wr u s.2.2.2.2 from by obtain ⟨u, e, i⟩ := hpL j s hj; exact ⟨u, e, Rows.below i K4⟩))
        have HlL := Lib.hid hlL
        clear hRL hlL hpL
        have CM := Lib.hid (fun (w' : World) (Kw : Below wr.heap.size wr w') => (show Calls Tryd.prog 16 #[.agg #[.int .i64 g, .int .i64 c, .slice (some ⟨n7, 0, none⟩) 1 1, .int .i64 lk, .slice o2 M.length c2], .int .i64 k] w' fun e w'' => ∃ u, e = .returned u ∧ SOwn w'' w'.heap.size u K ∧ Below w'.heap.size w' w'' from by
          have K5 := K4.trans (Kw.mono K4.size)
          have := iSealMake_any g c lk (.slice (some ⟨n7, 0, none⟩) 1 1) (.slice o2 M.length c2) [hz] M (k : Int) a w' (Rows.below HPF.out K5) (Rows.below HMv.out K5) (HE.out.below K5) (by simp)
          rwa [hK] at this))
        have oldr : ∀ {p : Addr} {u : Value}, w4.cell? p = some u → wr.cell? p = some u := fun hp => (K4.cell (World.block_lt_of_cell? _ _ hp)).trans hp
        have HCr := Lib.hid (⟨oldr HC.out.1.1, oldr HC.out.1.2, oldr HC.out.2.1, oldr HC.out.2.2.1, oldr HC.out.2.2.2.1, oldr HC.out.2.2.2.2.1, oldr HC.out.2.2.2.2.2⟩ : wr.cell? ⟨n5, 0, none⟩ = some (.int .i64 g) ∧ wr.cell? ⟨n5, 1, none⟩ = some (.int .i64 c) ∧ wr.cell? ⟨n7 + 1, 0, none⟩ = some (.int .i64 g) ∧ wr.cell? ⟨n7 + 1, 1, none⟩ = some (.int .i64 c) ∧ wr.cell? ⟨n7 + 1, 2, none⟩ = some (.slice (some ⟨n7, 0, none⟩) 1 1) ∧ wr.cell? ⟨n7 + 1, 3, none⟩ = some (.int .i64 lk) ∧ wr.cell? ⟨n7 + 1, 4, none⟩ = some (.slice o2 M.length c2))
        have hQ := Fb.start wr
        have tok2 : True := trivial
        have tok3 : True := trivial
        obtain ⟨q0, q1, q2, q3, q4, q5, q6⟩ := HCr.out
        clear oldr
        go_upto_region 12 with (fail)
        go_cut [89] (fun s89 wx => s89 = .bool false ∧ Fb wr wx [])
        case first =>
          by_cases hkz : (k : Int) = hz
          · have dk : ((k : Int) != hz) = false := by simp [hkz]
            have CK := Lib.hid (fun (w' : World) (u9 : Value) (Kw : Below wr.heap.size wr w') (h9 : Sls w' u9 (L ++ K)) => (show Calls Tryd.prog 19 #[hv, u9, .agg #[.int .i64 g, .int .i64 c, .slice (some ⟨n7, 0, none⟩) 1 1, .int .i64 lk, .slice o2 M.length c2], .int .i64 k] w' fun e w'' => e = .returned (.bool false) ∧ Below w'.heap.size w' w'' from by
              have K5 := K4.trans (Kw.mono K4.size)
              have cA := iSealOk_any hv u9 H (L ++ K) g c lk (.slice (some ⟨n7, 0, none⟩) 1 1) (.slice o2 M.length c2) [hz] M (k : Int) a w' (HH.out.below K5) h9 (Rows.below HPF.out K5) (Rows.below HMv.out K5) (HE.out.below K5) (tab_below HT.out K5) (by simp) (by rw [List.length_append]; omega) hsmK
              rwa [hijack_no HK.out HB5.out HBk.out hkz] at cA))
            have CH := Lib.hid (fun (w' : World) (Kw : Below wr.heap.size wr w') => iHoldHas_any hv H hz g c w' (HH.out.below (K4.trans (Kw.mono K4.size))))
            clear hkz hsmK K4 hK hQ4 hle hk5 hk1 hk6
            refine wp_region_held_drew (S := (fun w' => w'.cell? ⟨n5, 0, none⟩ = some (.int .i64 g) ∧ w'.cell? ⟨n5, 1, none⟩ = some (.int .i64 c) ∧ w'.cell? ⟨n7 + 1, 0, none⟩ = some (.int .i64 g) ∧ w'.cell? ⟨n7 + 1, 1, none⟩ = some (.int .i64 c) ∧ w'.cell? ⟨n7 + 1, 2, none⟩ = some (.slice (some ⟨n7, 0, none⟩) 1 1) ∧ w'.cell? ⟨n7 + 1, 3, none⟩ = some (.int .i64 lk) ∧ w'.cell? ⟨n7 + 1, 4, none⟩ = some (.slice o2 M.length c2))) (by kernel_rfl) ?hs (fun hHeld => ?_)
            case hs => ((try dsimp only); (first | (with_reducible assumption) | (refine ⟨?_, ?_, ?_, ?_, ?_, ?_, ?_⟩; exact Fb.old (w := wr) (L := []) (by repeat (first | (with_reducible assumption) | (with_reducible apply Fb.drew) | (with_reducible apply Fb.other) | (with_reducible apply Fb.setAway) | (intro q hq; cases hq) | (have := hQ.kp.size; (try simp only [World.size_alloc, World.size_drew, World.size_setCell]); (try dsimp only); omega))) HCr.out.1; exact Fb.old (w := wr) (L := []) (by repeat (first | (with_reducible assumption) | (with_reducible apply Fb.drew) | (with_reducible apply Fb.other) | (with_reducible apply Fb.setAway) | (intro q hq; cases hq) | (have := hQ.kp.size; (try simp only [World.size_alloc, World.size_drew, World.size_setCell]); (try dsimp only); omega))) HCr.out.2.1; exact Fb.old (w := wr) (L := []) (by repeat (first | (with_reducible assumption) | (with_reducible apply Fb.drew) | (with_reducible apply Fb.other) | (with_reducible apply Fb.setAway) | (intro q hq; cases hq) | (have := hQ.kp.size; (try simp only [World.size_alloc, World.size_drew, World.size_setCell]); (try dsimp only); omega))) HCr.out.2.2.1; exact Fb.old (w := wr) (L := []) (by repeat (first | (with_reducible assumption) | (with_reducible apply Fb.drew) | (with_reducible apply Fb.other) | (with_reducible apply Fb.setAway) | (intro q hq; cases hq) | (have := hQ.kp.size; (try simp only [World.size_alloc, World.size_drew, World.size_setCell]); (try dsimp only); omega))) HCr.out.2.2.2.1; exact Fb.old (w := wr) (L := []) (by repeat (first | (with_reducible assumption) | (with_reducible apply Fb.drew) | (with_reducible apply Fb.other) | (with_reducible apply Fb.setAway) | (intro q hq; cases hq) | (have := hQ.kp.size; (try simp only [World.size_alloc, World.size_drew, World.size_setCell]); (try dsimp only); omega))) HCr.out.2.2.2.2.1; exact Fb.old (w := wr) (L := []) (by repeat (first | (with_reducible assumption) | (with_reducible apply Fb.drew) | (with_reducible apply Fb.other) | (with_reducible apply Fb.setAway) | (intro q hq; cases hq) | (have := hQ.kp.size; (try simp only [World.size_alloc, World.size_drew, World.size_setCell]); (try dsimp only); omega))) HCr.out.2.2.2.2.2.1; exact Fb.old (w := wr) (L := []) (by repeat (first | (with_reducible assumption) | (with_reducible apply Fb.drew) | (with_reducible apply Fb.other) | (with_reducible apply Fb.setAway) | (intro q hq; cases hq) | (have := hQ.kp.size; (try simp only [World.size_alloc, World.size_drew, World.size_setCell]); (try dsimp only); omega))) HCr.out.2.2.2.2.2.2)))
            refine wpAnyH_take (i := 0) (oi := _) (v := ?_) (by simp only [List.getElem?_toArray, List.getElem?_cons_succ, List.getElem?_cons_zero]; rfl) (by kernel_rfl) (by kernel_rfl) (by kernel_rfl) (by exact fun _ _ _ h => h) (Or.inl ⟨by rfl, ?hy⟩) (by assumption) ?_
            case hy => (intro w hSw; (try dsimp only at hSw); go_simp; (try with_reducible rfl))
            (try simp only [Act.put, List.setIfInBounds_toArray, List.set_cons_zero, List.set_cons_succ])
            refine wpAnyH_take (i := 2) (oi := _) (v := ?_) (by simp only [List.getElem?_toArray, List.getElem?_cons_succ, List.getElem?_cons_zero]; rfl) (by kernel_rfl) (by kernel_rfl) (by kernel_rfl) (by exact fun _ _ _ h => h) (Or.inl ⟨by rfl, ?hy⟩) (by assumption) ?_
            case hy => (intro w hSw; (try dsimp only at hSw); go_simp; (try with_reducible rfl))
            (try simp only [Act.put, List.setIfInBounds_toArray, List.set_cons_zero, List.set_cons_succ])
            refine wpAnyH_take (i := 4) (oi := _) (v := ?_) (by simp only [List.getElem?_toArray, List.getElem?_cons_succ, List.getElem?_cons_zero]; rfl) (by kernel_rfl) (by kernel_rfl) (by kernel_rfl) (by exact fun _ _ _ h => h) (Or.inl ⟨by rfl, ?hy⟩) (by assumption) ?_
            case hy => (intro w hSw; (try dsimp only at hSw); go_simp; (try with_reducible rfl))
            (try simp only [Act.put, List.setIfInBounds_toArray, List.set_cons_zero, List.set_cons_succ])
            refine wpAnyH_take (i := 5) (oi := _) (v := ?_) (by simp only [List.getElem?_toArray, List.getElem?_cons_succ, List.getElem?_cons_zero]; rfl) (by kernel_rfl) (by kernel_rfl) (by kernel_rfl) (by exact fun _ _ _ h => h) (Or.inl ⟨by rfl, ?hy⟩) (by assumption) ?_
            case hy => (intro w hSw; (try dsimp only at hSw); go_simp; (try with_reducible rfl))
            (try simp only [Act.put, List.setIfInBounds_toArray, List.set_cons_zero, List.set_cons_succ])
            refine wpAnyH_take (i := 8) (oi := _) (v := ?_) (by simp only [List.getElem?_toArray, List.getElem?_cons_succ, List.getElem?_cons_zero]; rfl) (by kernel_rfl) (by kernel_rfl) (by kernel_rfl) (by exact fun _ _ _ h => h) (Or.inl ⟨by rfl, ?hy⟩) (by assumption) ?_
            case hy => (intro w hSw; (try dsimp only at hSw); go_simp; (try with_reducible rfl))
            (try simp only [Act.put, List.setIfInBounds_toArray, List.set_cons_zero, List.set_cons_succ])
            refine wpAnyH_take (i := 9) (oi := _) (v := ?_) (by simp only [List.getElem?_toArray, List.getElem?_cons_succ, List.getElem?_cons_zero]; rfl) (by kernel_rfl) (by kernel_rfl) (by kernel_rfl) (by exact fun _ _ _ h => h) (Or.inl ⟨by rfl, ?hy⟩) (by assumption) ?_
            case hy => (intro w hSw; (try dsimp only at hSw); go_simp; (try with_reducible rfl))
            (try simp only [Act.put, List.setIfInBounds_toArray, List.set_cons_zero, List.set_cons_succ])
            refine wpAnyH_take (i := 11) (oi := _) (v := ?_) (by simp only [List.getElem?_toArray, List.getElem?_cons_succ, List.getElem?_cons_zero]; rfl) (by kernel_rfl) (by kernel_rfl) (by kernel_rfl) (by exact fun _ _ _ h => h) (Or.inl ⟨by rfl, ?hy⟩) (by assumption) ?_
            case hy => (intro w hSw; (try dsimp only at hSw); go_simp; (try with_reducible rfl))
            (try simp only [Act.put, List.setIfInBounds_toArray, List.set_cons_zero, List.set_cons_succ])
            refine wpAnyH_take (i := 12) (oi := _) (v := ?_) (by simp only [List.getElem?_toArray, List.getElem?_cons_succ, List.getElem?_cons_zero]; rfl) (by kernel_rfl) (by kernel_rfl) (by kernel_rfl) (by exact fun _ _ _ h => h) (Or.inl ⟨by rfl, ?hy⟩) (by assumption) ?_
            case hy => (intro w hSw; (try dsimp only at hSw); go_simp; (try with_reducible rfl))
            (try simp only [Act.put, List.setIfInBounds_toArray, List.set_cons_zero, List.set_cons_succ])
            refine wpAnyH_take (i := 13) (oi := _) (v := ?_) (by simp only [List.getElem?_toArray, List.getElem?_cons_succ, List.getElem?_cons_zero]; rfl) (by kernel_rfl) (by kernel_rfl) (by kernel_rfl) (by exact fun _ _ _ h => h) (Or.inl ⟨by rfl, ?hy⟩) (by assumption) ?_
            case hy => (intro w hSw; (try dsimp only at hSw); go_simp; (try with_reducible rfl))
            (try simp only [Act.put, List.setIfInBounds_toArray, List.set_cons_zero, List.set_cons_succ])
            refine wpAnyH_ready (rs := [1]) (by kernel_rfl) (by simp) ?_
            refine AllReadyH.cons (o := _) (by simp only [List.getElem?_toArray, List.getElem?_cons_succ, List.getElem?_cons_zero]; rfl) (fun KK hK => ?_) AllReadyH.nil
            go_simp
            refine hK.out _ _ ?hs (fun hHeld => ?_)
            case hs => ((try dsimp only); (first | (with_reducible assumption) | (refine ⟨?_, ?_, ?_, ?_, ?_, ?_, ?_⟩; exact Fb.old (w := wr) (L := []) (by repeat (first | (with_reducible assumption) | (with_reducible apply Fb.drew) | (with_reducible apply Fb.other) | (with_reducible apply Fb.setAway) | (intro q hq; cases hq) | (have := hQ.kp.size; (try simp only [World.size_alloc, World.size_drew, World.size_setCell]); (try dsimp only); omega))) HCr.out.1; exact Fb.old (w := wr) (L := []) (by repeat (first | (with_reducible assumption) | (with_reducible apply Fb.drew) | (with_reducible apply Fb.other) | (with_reducible apply Fb.setAway) | (intro q hq; cases hq) | (have := hQ.kp.size; (try simp only [World.size_alloc, World.size_drew, World.size_setCell]); (try dsimp only); omega))) HCr.out.2.1; exact Fb.old (w := wr) (L := []) (by repeat (first | (with_reducible assumption) | (with_reducible apply Fb.drew) | (with_reducible apply Fb.other) | (with_reducible apply Fb.setAway) | (intro q hq; cases hq) | (have := hQ.kp.size; (try simp only [World.size_alloc, World.size_drew, World.size_setCell]); (try dsimp only); omega))) HCr.out.2.2.1; exact Fb.old (w := wr) (L := []) (by repeat (first | (with_reducible assumption) | (with_reducible apply Fb.drew) | (with_reducible apply Fb.other) | (with_reducible apply Fb.setAway) | (intro q hq; cases hq) | (have := hQ.kp.size; (try simp only [World.size_alloc, World.size_drew, World.size_setCell]); (try dsimp only); omega))) HCr.out.2.2.2.1; exact Fb.old (w := wr) (L := []) (by repeat (first | (with_reducible assumption) | (with_reducible apply Fb.drew) | (with_reducible apply Fb.other) | (with_reducible apply Fb.setAway) | (intro q hq; cases hq) | (have := hQ.kp.size; (try simp only [World.size_alloc, World.size_drew, World.size_setCell]); (try dsimp only); omega))) HCr.out.2.2.2.2.1; exact Fb.old (w := wr) (L := []) (by repeat (first | (with_reducible assumption) | (with_reducible apply Fb.drew) | (with_reducible apply Fb.other) | (with_reducible apply Fb.setAway) | (intro q hq; cases hq) | (have := hQ.kp.size; (try simp only [World.size_alloc, World.size_drew, World.size_setCell]); (try dsimp only); omega))) HCr.out.2.2.2.2.2.1; exact Fb.old (w := wr) (L := []) (by repeat (first | (with_reducible assumption) | (with_reducible apply Fb.drew) | (with_reducible apply Fb.other) | (with_reducible apply Fb.setAway) | (intro q hq; cases hq) | (have := hQ.kp.size; (try simp only [World.size_alloc, World.size_drew, World.size_setCell]); (try dsimp only); omega))) HCr.out.2.2.2.2.2.2)))
            clear hK KK
            (try simp only [Act.put, List.setIfInBounds_toArray, List.set_cons_zero, List.set_cons_succ])
            refine wpAnyH_ready (rs := [3]) (by kernel_rfl) (by simp) ?_
            refine AllReadyH.cons (o := _) (by simp only [List.getElem?_toArray, List.getElem?_cons_succ, List.getElem?_cons_zero]; rfl) (fun KK hK => ?_) AllReadyH.nil
            (clear tok2; refine step_appsZ (by rfl) _ _ 23 (by rfl) 28 (.agg #[.int .i64 0, .int .i64 0, .int .i64 0, .int .i64 0, .slice none 0 0]) 5 56 Tryd.underlying23 infoSl rfl (by decide) (by decide) wr.heap.size encS (fun _ => rfl) (.slice (some ⟨_, 0, none⟩) 0 0) [] (by rfl) (by repeat (first | (with_reducible assumption) | (with_reducible apply Own.drew) | exact Own.madeS _ _ _ _ _ _ (by simp) (Below.size (Fb.kp (W := wr) (L := []) (by repeat (first | (with_reducible assumption) | (with_reducible apply Fb.drew) | (with_reducible apply Fb.other) | (with_reducible apply Fb.setAway) | (intro q hq; cases hq) | (have := hQ.kp.size; (try simp only [World.size_alloc, World.size_drew, World.size_setCell]); (try dsimp only); omega))))) | apply Own.alloc)) lv dl HOL.out (by rfl) (HRL.out.below (Fb.kp (W := wr) (L := []) (by repeat (first | (with_reducible assumption) | (with_reducible apply Fb.drew) | (with_reducible apply Fb.other) | (with_reducible apply Fb.setAway) | (intro q hq; cases hq) | (have := hQ.kp.size; (try simp only [World.size_alloc, World.size_drew, World.size_setCell]); (try dsimp only); omega))))) (by have := HlL.out; simp; omega) (Below.size (Fb.kp (W := wr) (L := []) (by repeat (first | (with_reducible assumption) | (with_reducible apply Fb.drew) | (with_reducible apply Fb.other) | (with_reducible apply Fb.setAway) | (intro q hq; cases hq) | (have := hQ.kp.size; (try simp only [World.size_alloc, World.size_drew, World.size_setCell]); (try dsimp only); omega))))) ?_; intro v8 w8 hO8 hg8 hb8 hf8; rw [List.nil_append] at hO8; (try replace hU := SOwnU.far (by repeat (first | (with_reducible assumption) | (with_reducible apply SOwnU.drew) | (with_reducible apply SOwnU.alloc))) hg8 (by (try simp only [World.size_alloc, World.size_drew]); omega)); replace hQ := Fb.belowB (W := wr) (by repeat (first | (with_reducible assumption) | (with_reducible apply Fb.drew) | (with_reducible apply Fb.other) | (with_reducible apply Fb.setAway) | (intro q hq; cases hq) | (have := hQ.kp.size; (try simp only [World.size_alloc, World.size_drew, World.size_setCell]); (try dsimp only); omega))) hb8 (Nat.le_refl _) (by simp); obtain ⟨g8, e8, h8⟩ := frsh_some hf8; have l8 := hO8.lt g8 e8; have s8 := hb8.size; (try simp only [World.size_alloc, World.size_drew] at s8); (try simp only [World.size_alloc, World.size_drew] at h8); clear hg8 hb8 hf8)
            refine hK.out _ _ ?hs (fun hHeld => ?_)
            case hs => ((try dsimp only); (first | (with_reducible assumption) | (refine ⟨?_, ?_, ?_, ?_, ?_, ?_, ?_⟩; exact Fb.old (w := wr) (L := []) (by repeat (first | (with_reducible assumption) | (with_reducible apply Fb.drew) | (with_reducible apply Fb.other) | (with_reducible apply Fb.setAway) | (intro q hq; cases hq) | (have := hQ.kp.size; (try simp only [World.size_alloc, World.size_drew, World.size_setCell]); (try dsimp only); omega))) HCr.out.1; exact Fb.old (w := wr) (L := []) (by repeat (first | (with_reducible assumption) | (with_reducible apply Fb.drew) | (with_reducible apply Fb.other) | (with_reducible apply Fb.setAway) | (intro q hq; cases hq) | (have := hQ.kp.size; (try simp only [World.size_alloc, World.size_drew, World.size_setCell]); (try dsimp only); omega))) HCr.out.2.1; exact Fb.old (w := wr) (L := []) (by repeat (first | (with_reducible assumption) | (with_reducible apply Fb.drew) | (with_reducible apply Fb.other) | (with_reducible apply Fb.setAway) | (intro q hq; cases hq) | (have := hQ.kp.size; (try simp only [World.size_alloc, World.size_drew, World.size_setCell]); (try dsimp only); omega))) HCr.out.2.2.1; exact Fb.old (w := wr) (L := []) (by repeat (first | (with_reducible assumption) | (with_reducible apply Fb.drew) | (with_reducible apply Fb.other) | (with_reducible apply Fb.setAway) | (intro q hq; cases hq) | (have := hQ.kp.size; (try simp only [World.size_alloc, World.size_drew, World.size_setCell]); (try dsimp only); omega))) HCr.out.2.2.2.1; exact Fb.old (w := wr) (L := []) (by repeat (first | (with_reducible assumption) | (with_reducible apply Fb.drew) | (with_reducible apply Fb.other) | (with_reducible apply Fb.setAway) | (intro q hq; cases hq) | (have := hQ.kp.size; (try simp only [World.size_alloc, World.size_drew, World.size_setCell]); (try dsimp only); omega))) HCr.out.2.2.2.2.1; exact Fb.old (w := wr) (L := []) (by repeat (first | (with_reducible assumption) | (with_reducible apply Fb.drew) | (with_reducible apply Fb.other) | (with_reducible apply Fb.setAway) | (intro q hq; cases hq) | (have := hQ.kp.size; (try simp only [World.size_alloc, World.size_drew, World.size_setCell]); (try dsimp only); omega))) HCr.out.2.2.2.2.2.1; exact Fb.old (w := wr) (L := []) (by repeat (first | (with_reducible assumption) | (with_reducible apply Fb.drew) | (with_reducible apply Fb.other) | (with_reducible apply Fb.setAway) | (intro q hq; cases hq) | (have := hQ.kp.size; (try simp only [World.size_alloc, World.size_drew, World.size_setCell]); (try dsimp only); omega))) HCr.out.2.2.2.2.2.2)))
            clear hK KK
            (try simp only [Act.put, List.setIfInBounds_toArray, List.set_cons_zero, List.set_cons_succ])
            refine wpAnyH_ready (rs := [6]) (by kernel_rfl) (by simp) ?_
            refine AllReadyH.cons (o := _) (by simp only [List.getElem?_toArray, List.getElem?_cons_succ, List.getElem?_cons_zero]; rfl) (fun KK hK => ?_) AllReadyH.nil
            (go_simp; (go_at_call 16; go_must (refine (CM.out _ (Fb.kp (W := wr) (L := []) (by repeat (first | (with_reducible assumption) | (with_reducible apply Fb.drew) | (with_reducible apply Fb.other) | (with_reducible apply Fb.setAway) | (intro q hq; cases hq) | (have := hQ.kp.size; (try simp only [World.size_alloc, World.size_drew, World.size_setCell]); (try dsimp only); omega))))).mono ?_); rintro e wx ⟨u, rfl, hSu, hbx⟩; obtain ⟨ua, uc, rfl⟩ := hSu.sl; have hU := hSu.toU; have sx := hbx.size; (try simp only [World.size_alloc, World.size_drew] at hU); (try simp only [World.size_alloc, World.size_drew] at sx); replace hQ := Fb.below (W := wr) (L := []) (by repeat (first | (with_reducible assumption) | (with_reducible apply Fb.drew) | (with_reducible apply Fb.other) | (with_reducible apply Fb.setAway) | (intro q hq; cases hq) | (have := hQ.kp.size; (try simp only [World.size_alloc, World.size_drew, World.size_setCell]); (try dsimp only); omega))) hbx; (try replace hO8 := Own.below (by repeat (first | (with_reducible assumption) | (with_reducible apply Own.drew) | (with_reducible apply Own.alloc))) hbx); clear hbx hSu); (try go_wp2_with fail))
            refine hK.out _ _ ?hs (fun hHeld => ?_)
            case hs => ((try dsimp only); (first | (with_reducible assumption) | (refine ⟨?_, ?_, ?_, ?_, ?_, ?_, ?_⟩; exact Fb.old (w := wr) (L := []) (by repeat (first | (with_reducible assumption) | (with_reducible apply Fb.drew) | (with_reducible apply Fb.other) | (with_reducible apply Fb.setAway) | (intro q hq; cases hq) | (have := hQ.kp.size; (try simp only [World.size_alloc, World.size_drew, World.size_setCell]); (try dsimp only); omega))) HCr.out.1; exact Fb.old (w := wr) (L := []) (by repeat (first | (with_reducible assumption) | (with_reducible apply Fb.drew) | (with_reducible apply Fb.other) | (with_reducible apply Fb.setAway) | (intro q hq; cases hq) | (have := hQ.kp.size; (try simp only [World.size_alloc, World.size_drew, World.size_setCell]); (try dsimp only); omega))) HCr.out.2.1; exact Fb.old (w := wr) (L := []) (by repeat (first | (with_reducible assumption) | (with_reducible apply Fb.drew) | (with_reducible apply Fb.other) | (with_reducible apply Fb.setAway) | (intro q hq; cases hq) | (have := hQ.kp.size; (try simp only [World.size_alloc, World.size_drew, World.size_setCell]); (try dsimp only); omega))) HCr.out.2.2.1; exact Fb.old (w := wr) (L := []) (by repeat (first | (with_reducible assumption) | (with_reducible apply Fb.drew) | (with_reducible apply Fb.other) | (with_reducible apply Fb.setAway) | (intro q hq; cases hq) | (have := hQ.kp.size; (try simp only [World.size_alloc, World.size_drew, World.size_setCell]); (try dsimp only); omega))) HCr.out.2.2.2.1; exact Fb.old (w := wr) (L := []) (by repeat (first | (with_reducible assumption) | (with_reducible apply Fb.drew) | (with_reducible apply Fb.other) | (with_reducible apply Fb.setAway) | (intro q hq; cases hq) | (have := hQ.kp.size; (try simp only [World.size_alloc, World.size_drew, World.size_setCell]); (try dsimp only); omega))) HCr.out.2.2.2.2.1; exact Fb.old (w := wr) (L := []) (by repeat (first | (with_reducible assumption) | (with_reducible apply Fb.drew) | (with_reducible apply Fb.other) | (with_reducible apply Fb.setAway) | (intro q hq; cases hq) | (have := hQ.kp.size; (try simp only [World.size_alloc, World.size_drew, World.size_setCell]); (try dsimp only); omega))) HCr.out.2.2.2.2.2.1; exact Fb.old (w := wr) (L := []) (by repeat (first | (with_reducible assumption) | (with_reducible apply Fb.drew) | (with_reducible apply Fb.other) | (with_reducible apply Fb.setAway) | (intro q hq; cases hq) | (have := hQ.kp.size; (try simp only [World.size_alloc, World.size_drew, World.size_setCell]); (try dsimp only); omega))) HCr.out.2.2.2.2.2.2)))
            clear hK KK
            (try simp only [Act.put, List.setIfInBounds_toArray, List.set_cons_zero, List.set_cons_succ])
            refine wpAnyH_ready (rs := [7]) (by kernel_rfl) (by simp) ?_
            refine AllReadyH.cons (o := _) (by simp only [List.getElem?_toArray, List.getElem?_cons_succ, List.getElem?_cons_zero]; rfl) (fun KK hK => ?_) AllReadyH.nil
            (clear tok3; obtain ⟨du, hu1, hu2, hu3⟩ := hU; refine step_appsZ (by rfl) _ _ 23 (by rfl) 28 (.agg #[.int .i64 0, .int .i64 0, .int .i64 0, .int .i64 0, .slice none 0 0]) 5 56 Tryd.underlying23 infoSl rfl (by decide) (by decide) wr.heap.size encS (fun _ => rfl) v8 dl (by rfl) (by repeat (first | (with_reducible assumption) | (with_reducible apply Own.drew) | (with_reducible apply Own.alloc))) (.slice ua K.length uc) du (SRel.one hu2) (by rfl) (Own.rows (by repeat (first | (with_reducible assumption) | (with_reducible apply Own.drew) | (with_reducible apply Own.alloc))) (fun _ => rfl)) (by have := HlL.out; have := hu2.1; omega) (Below.size (Fb.kp (W := wr) (L := []) (by repeat (first | (with_reducible assumption) | (with_reducible apply Fb.drew) | (with_reducible apply Fb.other) | (with_reducible apply Fb.setAway) | (intro q hq; cases hq) | (have := hQ.kp.size; (try simp only [World.size_alloc, World.size_drew, World.size_setCell]); (try dsimp only); omega))))) ?_; intro v9 w9 hO9 hg9 hb9 hf9; rw [e8] at hg9; have hP9 := SRel.farP (by repeat (first | (with_reducible assumption) | (with_reducible apply SRel.drewS) | (with_reducible apply SRel.allocS))) hg9 (by omega); replace hQ := Fb.belowB (W := wr) (L := []) (by repeat (first | (with_reducible assumption) | (with_reducible apply Fb.drew) | (with_reducible apply Fb.other) | (with_reducible apply Fb.setAway) | (intro q hq; cases hq) | (have := hQ.kp.size; (try simp only [World.size_alloc, World.size_drew, World.size_setCell]); (try dsimp only); omega))) hb9 (Nat.le_refl _) (by simp); have hS9 : Sls w9 v9 (L ++ K) := Sls.app (hO9.rows (fun _ => rfl)) HlL.out hu2.1 (fun j s hj => by obtain ⟨u, e, i⟩ := HpL.out j s hj; exact ⟨u, e, Rows.below i hQ.kp⟩) hP9; clear hO9 hg9 hb9 hf9 hP9 hu1 hu2 hu3)
            refine hK.out _ _ ?hs (fun hHeld => ?_)
            case hs => ((try dsimp only); (first | (with_reducible assumption) | (refine ⟨?_, ?_, ?_, ?_, ?_, ?_, ?_⟩; exact Fb.old (w := wr) (L := []) (by repeat (first | (with_reducible assumption) | (with_reducible apply Fb.drew) | (with_reducible apply Fb.other) | (with_reducible apply Fb.setAway) | (intro q hq; cases hq) | (have := hQ.kp.size; (try simp only [World.size_alloc, World.size_drew, World.size_setCell]); (try dsimp only); omega))) HCr.out.1; exact Fb.old (w := wr) (L := []) (by repeat (first | (with_reducible assumption) | (with_reducible apply Fb.drew) | (with_reducible apply Fb.other) | (with_reducible apply Fb.setAway) | (intro q hq; cases hq) | (have := hQ.kp.size; (try simp only [World.size_alloc, World.size_drew, World.size_setCell]); (try dsimp only); omega))) HCr.out.2.1; exact Fb.old (w := wr) (L := []) (by repeat (first | (with_reducible assumption) | (with_reducible apply Fb.drew) | (with_reducible apply Fb.other) | (with_reducible apply Fb.setAway) | (intro q hq; cases hq) | (have := hQ.kp.size; (try simp only [World.size_alloc, World.size_drew, World.size_setCell]); (try dsimp only); omega))) HCr.out.2.2.1; exact Fb.old (w := wr) (L := []) (by repeat (first | (with_reducible assumption) | (with_reducible apply Fb.drew) | (with_reducible apply Fb.other) | (with_reducible apply Fb.setAway) | (intro q hq; cases hq) | (have := hQ.kp.size; (try simp only [World.size_alloc, World.size_drew, World.size_setCell]); (try dsimp only); omega))) HCr.out.2.2.2.1; exact Fb.old (w := wr) (L := []) (by repeat (first | (with_reducible assumption) | (with_reducible apply Fb.drew) | (with_reducible apply Fb.other) | (with_reducible apply Fb.setAway) | (intro q hq; cases hq) | (have := hQ.kp.size; (try simp only [World.size_alloc, World.size_drew, World.size_setCell]); (try dsimp only); omega))) HCr.out.2.2.2.2.1; exact Fb.old (w := wr) (L := []) (by repeat (first | (with_reducible assumption) | (with_reducible apply Fb.drew) | (with_reducible apply Fb.other) | (with_reducible apply Fb.setAway) | (intro q hq; cases hq) | (have := hQ.kp.size; (try simp only [World.size_alloc, World.size_drew, World.size_setCell]); (try dsimp only); omega))) HCr.out.2.2.2.2.2.1; exact Fb.old (w := wr) (L := []) (by repeat (first | (with_reducible assumption) | (with_reducible apply Fb.drew) | (with_reducible apply Fb.other) | (with_reducible apply Fb.setAway) | (intro q hq; cases hq) | (have := hQ.kp.size; (try simp only [World.size_alloc, World.size_drew, World.size_setCell]); (try dsimp only); omega))) HCr.out.2.2.2.2.2.2)))
            clear hK KK
            (try simp only [Act.put, List.setIfInBounds_toArray, List.set_cons_zero, List.set_cons_succ])
            refine wpAnyH_ready (rs := [10]) (by kernel_rfl) (by simp) ?_
            refine AllReadyH.cons (o := _) (by simp only [List.getElem?_toArray, List.getElem?_cons_succ, List.getElem?_cons_zero]; rfl) (fun KK hK => ?_) AllReadyH.nil
            (go_simp; (go_at_call 19; go_must (refine (CK.out _ v9 (Fb.kp (W := wr) (L := []) (by repeat (first | (with_reducible assumption) | (with_reducible apply Fb.drew) | (with_reducible apply Fb.other) | (with_reducible apply Fb.setAway) | (intro q hq; cases hq) | (have := hQ.kp.size; (try simp only [World.size_alloc, World.size_drew, World.size_setCell]); (try dsimp only); omega)))) (by repeat (first | (with_reducible assumption) | (with_reducible apply Sls.drew)))).mono ?_); rintro e wy ⟨rfl, hby⟩; replace hQ := Fb.below (W := wr) (L := []) (by repeat (first | (with_reducible assumption) | (with_reducible apply Fb.drew) | (with_reducible apply Fb.other) | (with_reducible apply Fb.setAway) | (intro q hq; cases hq) | (have := hQ.kp.size; (try simp only [World.size_alloc, World.size_drew, World.size_setCell]); (try dsimp only); omega))) hby; clear hby); (try go_wp2_with fail))
            refine hK.out _ _ ?hs (fun hHeld => ?_)
            case hs => ((try dsimp only); (first | (with_reducible assumption) | (refine ⟨?_, ?_, ?_, ?_, ?_, ?_, ?_⟩; exact Fb.old (w := wr) (L := []) (by repeat (first | (with_reducible assumption) | (with_reducible apply Fb.drew) | (with_reducible apply Fb.other) | (with_reducible apply Fb.setAway) | (intro q hq; cases hq) | (have := hQ.kp.size; (try simp only [World.size_alloc, World.size_drew, World.size_setCell]); (try dsimp only); omega))) HCr.out.1; exact Fb.old (w := wr) (L := []) (by repeat (first | (with_reducible assumption) | (with_reducible apply Fb.drew) | (with_reducible apply Fb.other) | (with_reducible apply Fb.setAway) | (intro q hq; cases hq) | (have := hQ.kp.size; (try simp only [World.size_alloc, World.size_drew, World.size_setCell]); (try dsimp only); omega))) HCr.out.2.1; exact Fb.old (w := wr) (L := []) (by repeat (first | (with_reducible assumption) | (with_reducible apply Fb.drew) | (with_reducible apply Fb.other) | (with_reducible apply Fb.setAway) | (intro q hq; cases hq) | (have := hQ.kp.size; (try simp only [World.size_alloc, World.size_drew, World.size_setCell]); (try dsimp only); omega))) HCr.out.2.2.1; exact Fb.old (w := wr) (L := []) (by repeat (first | (with_reducible assumption) | (with_reducible apply Fb.drew) | (with_reducible apply Fb.other) | (with_reducible apply Fb.setAway) | (intro q hq; cases hq) | (have := hQ.kp.size; (try simp only [World.size_alloc, World.size_drew, World.size_setCell]); (try dsimp only); omega))) HCr.out.2.2.2.1; exact Fb.old (w := wr) (L := []) (by repeat (first | (with_reducible assumption) | (with_reducible apply Fb.drew) | (with_reducible apply Fb.other) | (with_reducible apply Fb.setAway) | (intro q hq; cases hq) | (have := hQ.kp.size; (try simp only [World.size_alloc, World.size_drew, World.size_setCell]); (try dsimp only); omega))) HCr.out.2.2.2.2.1; exact Fb.old (w := wr) (L := []) (by repeat (first | (with_reducible assumption) | (with_reducible apply Fb.drew) | (with_reducible apply Fb.other) | (with_reducible apply Fb.setAway) | (intro q hq; cases hq) | (have := hQ.kp.size; (try simp only [World.size_alloc, World.size_drew, World.size_setCell]); (try dsimp only); omega))) HCr.out.2.2.2.2.2.1; exact Fb.old (w := wr) (L := []) (by repeat (first | (with_reducible assumption) | (with_reducible apply Fb.drew) | (with_reducible apply Fb.other) | (with_reducible apply Fb.setAway) | (intro q hq; cases hq) | (have := hQ.kp.size; (try simp only [World.size_alloc, World.size_drew, World.size_setCell]); (try dsimp only); omega))) HCr.out.2.2.2.2.2.2)))
            clear hK KK
            (try simp only [Act.put, List.setIfInBounds_toArray, List.set_cons_zero, List.set_cons_succ])
            refine wpAnyH_take (i := 14) (oi := _) (v := ?_) (by simp only [List.getElem?_toArray, List.getElem?_cons_succ, List.getElem?_cons_zero]; rfl) (by kernel_rfl) (by kernel_rfl) (by kernel_rfl) (by exact fun _ _ _ h => h) (Or.inl ⟨by rfl, ?hy⟩) (by assumption) ?_
            case hy => (intro w hSw; (try dsimp only at hSw); go_simp; (try with_reducible rfl))
            (try simp only [Act.put, List.setIfInBounds_toArray, List.set_cons_zero, List.set_cons_succ])
            refine wpAnyH_take (i := 15) (oi := _) (v := undef) (by simp only [List.getElem?_toArray, List.getElem?_cons_succ, List.getElem?_cons_zero]; rfl) (by kernel_rfl) (by kernel_rfl) (by kernel_rfl) (by exact fun _ _ _ h => h) (Or.inr ⟨by rfl, rfl⟩) (by assumption) ?_
            (try simp only [Act.put, List.setIfInBounds_toArray, List.set_cons_zero, List.set_cons_succ])
            refine wpAnyH_take (i := 16) (oi := _) (v := undef) (by simp only [List.getElem?_toArray, List.getElem?_cons_succ, List.getElem?_cons_zero]; rfl) (by kernel_rfl) (by kernel_rfl) (by kernel_rfl) (by exact fun _ _ _ h => h) (Or.inr ⟨by rfl, rfl⟩) (by assumption) ?_
            (try simp only [Act.put, List.setIfInBounds_toArray, List.set_cons_zero, List.set_cons_succ])
            refine wpAnyH_take (i := 17) (oi := _) (v := undef) (by simp only [List.getElem?_toArray, List.getElem?_cons_succ, List.getElem?_cons_zero]; rfl) (by kernel_rfl) (by kernel_rfl) (by kernel_rfl) (by exact fun _ _ _ h => h) (Or.inr ⟨by rfl, rfl⟩) (by assumption) ?_
            (try simp only [Act.put, List.setIfInBounds_toArray, List.set_cons_zero, List.set_cons_succ])
            refine wpAnyH_take (i := 18) (oi := _) (v := undef) (by simp only [List.getElem?_toArray, List.getElem?_cons_succ, List.getElem?_cons_zero]; rfl) (by kernel_rfl) (by kernel_rfl) (by kernel_rfl) (by exact fun _ _ _ h => h) (Or.inr ⟨by rfl, rfl⟩) (by assumption) ?_
            (try simp only [Act.put, List.setIfInBounds_toArray, List.set_cons_zero, List.set_cons_succ])
            refine wpAnyH_take (i := 19) (oi := _) (v := undef) (by simp only [List.getElem?_toArray, List.getElem?_cons_succ, List.getElem?_cons_zero]; rfl) (by kernel_rfl) (by kernel_rfl) (by kernel_rfl) (by exact fun _ _ _ h => h) (Or.inr ⟨by rfl, rfl⟩) (by assumption) ?_
            (try simp only [Act.put, List.setIfInBounds_toArray, List.set_cons_zero, List.set_cons_succ])
            refine wpAnyH_take (i := 20) (oi := _) (v := ?_) (by simp only [List.getElem?_toArray, List.getElem?_cons_succ, List.getElem?_cons_zero]; rfl) (by kernel_rfl) (by kernel_rfl) (by kernel_rfl) (by exact fun _ _ _ h => h) (Or.inl ⟨by rfl, ?hy⟩) (by assumption) ?_
            case hy => (intro w hSw; (try dsimp only at hSw); go_simp; (try with_reducible rfl))
            (try simp only [Act.put, List.setIfInBounds_toArray, List.set_cons_zero, List.set_cons_succ])
            refine wpAnyH_take (i := 21) (oi := _) (v := ?_) (by simp only [List.getElem?_toArray, List.getElem?_cons_succ, List.getElem?_cons_zero]; rfl) (by kernel_rfl) (by kernel_rfl) (by kernel_rfl) (by exact fun _ _ _ h => h) (Or.inl ⟨by rfl, ?hy⟩) (by assumption) ?_
            case hy => (intro w hSw; (try dsimp only at hSw); go_simp; (try with_reducible rfl))
            (try simp only [Act.put, List.setIfInBounds_toArray, List.set_cons_zero, List.set_cons_succ])
            refine wpAnyH_done (by kernel_rfl) ?_ _
            go_wp2_with fail
            go_meet
            case rel => exact ⟨rfl, hQ⟩
          · have dk : ((k : Int) != hz) = true := by simp [hkz]
            obtain ⟨Z, hZ⟩ : ∃ Z, H.any (holdsP hz g c) = Z := ⟨_, rfl⟩
            have hZZ : (Z != Z) = false := by simp
            have CK := Lib.hid (fun (w' : World) (u9 : Value) (Kw : Below wr.heap.size wr w') (h9 : Sls w' u9 (L ++ K)) => (show Calls Tryd.prog 19 #[hv, u9, .agg #[.int .i64 g, .int .i64 c, .slice (some ⟨n7, 0, none⟩) 1 1, .int .i64 lk, .slice o2 M.length c2], .int .i64 k] w' fun e w'' => e = .returned (.bool Z) ∧ Below w'.heap.size w' w'' from by
              have K5 := K4.trans (Kw.mono K4.size)
              have cA := iSealOk_any hv u9 H (L ++ K) g c lk (.slice (some ⟨n7, 0, none⟩) 1 1) (.slice o2 M.length c2) [hz] M (k : Int) a w' (HH.out.below K5) h9 (Rows.below HPF.out K5) (Rows.below HMv.out K5) (HE.out.below K5) (tab_below HT.out K5) (by simp) (by rw [List.length_append]; omega) hsmK
              rw [← hK] at cA
              rwa [hijack_yes HK.out HB5.out HBk.out hkz, hZ] at cA))
            have CH := Lib.hid (fun (w' : World) (Kw : Below wr.heap.size wr w') => (show Calls Tryd.prog 25 #[hv, .int .i64 hz, .agg #[.int .i64 g, .int .i64 c]] w' fun e w'' => e = .returned (.bool Z) ∧ Below w'.heap.size w' w'' from by have := iHoldHas_any hv H hz g c w' (HH.out.below (K4.trans (Kw.mono K4.size))); rwa [hZ] at this))
            clear hkz hsmK K4 hK hQ4 hle hk5 hk1 hk6 hZ
            go_region_held3 (fun w' => w'.cell? ⟨n5, 0, none⟩ = some (.int .i64 g) ∧ w'.cell? ⟨n5, 1, none⟩ = some (.int .i64 c) ∧ w'.cell? ⟨n7 + 1, 0, none⟩ = some (.int .i64 g) ∧ w'.cell? ⟨n7 + 1, 1, none⟩ = some (.int .i64 c) ∧ w'.cell? ⟨n7 + 1, 2, none⟩ = some (.slice (some ⟨n7, 0, none⟩) 1 1) ∧ w'.cell? ⟨n7 + 1, 3, none⟩ = some (.int .i64 lk) ∧ w'.cell? ⟨n7 + 1, 4, none⟩ = some (.slice o2 M.length c2))
            (first | (with_reducible assumption) | (refine ⟨?_, ?_, ?_, ?_, ?_, ?_, ?_⟩; exact Fb.old (w := wr) (L := []) (by repeat (first | (with_reducible assumption) | (with_reducible apply Fb.drew) | (with_reducible apply Fb.other) | (with_reducible apply Fb.setAway) | (intro q hq; cases hq) | (have := hQ.kp.size; (try simp only [World.size_alloc, World.size_drew, World.size_setCell]); (try dsimp only); omega))) HCr.out.1; exact Fb.old (w := wr) (L := []) (by repeat (first | (with_reducible assumption) | (with_reducible apply Fb.drew) | (with_reducible apply Fb.other) | (with_reducible apply Fb.setAway) | (intro q hq; cases hq) | (have := hQ.kp.size; (try simp only [World.size_alloc, World.size_drew, World.size_setCell]); (try dsimp only); omega))) HCr.out.2.1; exact Fb.old (w := wr) (L := []) (by repeat (first | (with_reducible assumption) | (with_reducible apply Fb.drew) | (with_reducible apply Fb.other) | (with_reducible apply Fb.setAway) | (intro q hq; cases hq) | (have := hQ.kp.size; (try simp only [World.size_alloc, World.size_drew, World.size_setCell]); (try dsimp only); omega))) HCr.out.2.2.1; exact Fb.old (w := wr) (L := []) (by repeat (first | (with_reducible assumption) | (with_reducible apply Fb.drew) | (with_reducible apply Fb.other) | (with_reducible apply Fb.setAway) | (intro q hq; cases hq) | (have := hQ.kp.size; (try simp only [World.size_alloc, World.size_drew, World.size_setCell]); (try dsimp only); omega))) HCr.out.2.2.2.1; exact Fb.old (w := wr) (L := []) (by repeat (first | (with_reducible assumption) | (with_reducible apply Fb.drew) | (with_reducible apply Fb.other) | (with_reducible apply Fb.setAway) | (intro q hq; cases hq) | (have := hQ.kp.size; (try simp only [World.size_alloc, World.size_drew, World.size_setCell]); (try dsimp only); omega))) HCr.out.2.2.2.2.1; exact Fb.old (w := wr) (L := []) (by repeat (first | (with_reducible assumption) | (with_reducible apply Fb.drew) | (with_reducible apply Fb.other) | (with_reducible apply Fb.setAway) | (intro q hq; cases hq) | (have := hQ.kp.size; (try simp only [World.size_alloc, World.size_drew, World.size_setCell]); (try dsimp only); omega))) HCr.out.2.2.2.2.2.1; exact Fb.old (w := wr) (L := []) (by repeat (first | (with_reducible assumption) | (with_reducible apply Fb.drew) | (with_reducible apply Fb.other) | (with_reducible apply Fb.setAway) | (intro q hq; cases hq) | (have := hQ.kp.size; (try simp only [World.size_alloc, World.size_drew, World.size_setCell]); (try dsimp only); omega))) HCr.out.2.2.2.2.2.2))
            (first
              | (clear tok2; refine step_appsZ (by rfl) _ _ 23 (by rfl) 28 (.agg #[.int .i64 0, .int .i64 0, .int .i64 0, .int .i64 0, .slice none 0 0]) 5 56 Tryd.underlying23 infoSl rfl (by decide) (by decide) wr.heap.size encS (fun _ => rfl) (.slice (some ⟨_, 0, none⟩) 0 0) [] (by rfl) (by repeat (first | (with_reducible assumption) | (with_reducible apply Own.drew) | exact Own.madeS _ _ _ _ _ _ (by simp) (Below.size (Fb.kp (W := wr) (L := []) (by repeat (first | (with_reducible assumption) | (with_reducible apply Fb.drew) | (with_reducible apply Fb.other) | (with_reducible apply Fb.setAway) | (intro q hq; cases hq) | (have := hQ.kp.size; (try simp only [World.size_alloc, World.size_drew, World.size_setCell]); (try dsimp only); omega))))) | apply Own.alloc)) lv dl HOL.out (by rfl) (HRL.out.below (Fb.kp (W := wr) (L := []) (by repeat (first | (with_reducible assumption) | (with_reducible apply Fb.drew) | (with_reducible apply Fb.other) | (with_reducible apply Fb.setAway) | (intro q hq; cases hq) | (have := hQ.kp.size; (try simp only [World.size_alloc, World.size_drew, World.size_setCell]); (try dsimp only); omega))))) (by have := HlL.out; simp; omega) (Below.size (Fb.kp (W := wr) (L := []) (by repeat (first | (with_reducible assumption) | (with_reducible apply Fb.drew) | (with_reducible apply Fb.other) | (with_reducible apply Fb.setAway) | (intro q hq; cases hq) | (have := hQ.kp.size; (try simp only [World.size_alloc, World.size_drew, World.size_setCell]); (try dsimp only); omega))))) ?_; intro v8 w8 hO8 hg8 hb8 hf8; rw [List.nil_append] at hO8; (try replace hU := SOwnU.far (by repeat (first | (with_reducible assumption) | (with_reducible apply SOwnU.drew) | (with_reducible apply SOwnU.alloc))) hg8 (by (try simp only [World.size_alloc, World.size_drew]); omega)); replace hQ := Fb.belowB (W := wr) (by repeat (first | (with_reducible assumption) | (with_reducible apply Fb.drew) | (with_reducible apply Fb.other) | (with_reducible apply Fb.setAway) | (intro q hq; cases hq) | (have := hQ.kp.size; (try simp only [World.size_alloc, World.size_drew, World.size_setCell]); (try dsimp only); omega))) hb8 (Nat.le_refl _) (by simp); obtain ⟨g8, e8, h8⟩ := frsh_some hf8; have l8 := hO8.lt g8 e8; have s8 := hb8.size; (try simp only [World.size_alloc, World.size_drew] at s8); (try simp only [World.size_alloc, World.size_drew] at h8); clear hg8 hb8 hf8)
              | (go_at_call 16; go_must (refine (CM.out _ (Fb.kp (W := wr) (L := []) (by repeat (first | (with_reducible assumption) | (with_reducible apply Fb.drew) | (with_reducible apply Fb.other) | (with_reducible apply Fb.setAway) | (intro q hq; cases hq) | (have := hQ.kp.size; (try simp only [World.size_alloc, World.size_drew, World.size_setCell]); (try dsimp only); omega))))).mono ?_); rintro e wx ⟨u, rfl, hSu, hbx⟩; obtain ⟨ua, uc, rfl⟩ := hSu.sl; have hU := hSu.toU; have sx := hbx.size; (try simp only [World.size_alloc, World.size_drew] at hU); (try simp only [World.size_alloc, World.size_drew] at sx); replace hQ := Fb.below (W := wr) (L := []) (by repeat (first | (with_reducible assumption) | (with_reducible apply Fb.drew) | (with_reducible apply Fb.other) | (with_reducible apply Fb.setAway) | (intro q hq; cases hq) | (have := hQ.kp.size; (try simp only [World.size_alloc, World.size_drew, World.size_setCell]); (try dsimp only); omega))) hbx; (try replace hO8 := Own.below (by repeat (first | (with_reducible assumption) | (with_reducible apply Own.drew) | (with_reducible apply Own.alloc))) hbx); clear hbx hSu)
              | (clear tok3; obtain ⟨du, hu1, hu2, hu3⟩ := hU; refine step_appsZ (by rfl) _ _ 23 (by rfl) 28 (.agg #[.int .i64 0, .int .i64 0, .int .i64 0, .int .i64 0, .slice none 0 0]) 5 56 Tryd.underlying23 infoSl rfl (by decide) (by decide) wr.heap.size encS (fun _ => rfl) v8 dl (by rfl) (by repeat (first | (with_reducible assumption) | (with_reducible apply Own.drew) | (with_reducible apply Own.alloc))) (.slice ua K.length uc) du (SRel.one hu2) (by rfl) (Own.rows (by repeat (first | (with_reducible assumption) | (with_reducible apply Own.drew) | (with_reducible apply Own.alloc))) (fun _ => rfl)) (by have := HlL.out; have := hu2.1; omega) (Below.size (Fb.kp (W := wr) (L := []) (by repeat (first | (with_reducible assumption) | (with_reducible apply Fb.drew) | (with_reducible apply Fb.other) | (with_reducible apply Fb.setAway) | (intro q hq; cases hq) | (have := hQ.kp.size; (try simp only [World.size_alloc, World.size_drew, World.size_setCell]); (try dsimp only); omega))))) ?_; intro v9 w9 hO9 hg9 hb9 hf9; rw [e8] at hg9; have hP9 := SRel.farP (by repeat (first | (with_reducible assumption) | (with_reducible apply SRel.drewS) | (with_reducible apply SRel.allocS))) hg9 (by omega); replace hQ := Fb.belowB (W := wr) (L := []) (by repeat (first | (with_reducible assumption) | (with_reducible apply Fb.drew) | (with_reducible apply Fb.other) | (with_reducible apply Fb.setAway) | (intro q hq; cases hq) | (have := hQ.kp.size; (try simp only [World.size_alloc, World.size_drew, World.size_setCell]); (try dsimp only); omega))) hb9 (Nat.le_refl _) (by simp); have hS9 : Sls w9 v9 (L ++ K) := Sls.app (hO9.rows (fun _ => rfl)) HlL.out hu2.1 (fun j s hj => by obtain ⟨u, e, i⟩ := HpL.out j s hj; exact ⟨u, e, Rows.below i hQ.kp⟩) hP9; clear hO9 hg9 hb9 hf9 hP9 hu1 hu2 hu3)
              | (go_at_call 19; go_must (refine (CK.out _ v9 (Fb.kp (W := wr) (L := []) (by repeat (first | (with_reducible assumption) | (with_reducible apply Fb.drew) | (with_reducible apply Fb.other) | (with_reducible apply Fb.setAway) | (intro q hq; cases hq) | (have := hQ.kp.size; (try simp only [World.size_alloc, World.size_drew, World.size_setCell]); (try dsimp only); omega)))) (by repeat (first | (with_reducible assumption) | (with_reducible apply Sls.drew)))).mono ?_); rintro e wy ⟨rfl, hby⟩; replace hQ := Fb.below (W := wr) (L := []) (by repeat (first | (with_reducible assumption) | (with_reducible apply Fb.drew) | (with_reducible apply Fb.other) | (with_reducible apply Fb.setAway) | (intro q hq; cases hq) | (have := hQ.kp.size; (try simp only [World.size_alloc, World.size_drew, World.size_setCell]); (try dsimp only); omega))) hby; clear hby)
              | (go_at_call 25; go_must (refine (CH.out _ (Fb.kp (W := wr) (L := []) (by repeat (first | (with_reducible assumption) | (with_reducible apply Fb.drew) | (with_reducible apply Fb.other) | (with_reducible apply Fb.setAway) | (intro q hq; cases hq) | (have := hQ.kp.size; (try simp only [World.size_alloc, World.size_drew, World.size_setCell]); (try dsimp only); omega))))).mono ?_); rintro e wy ⟨rfl, hby⟩; (try replace hO8 := Own.below (by repeat (first | (with_reducible assumption) | (with_reducible apply Own.drew) | (with_reducible apply Own.alloc))) hby); (try replace hU := SOwnU.below (by repeat (first | (with_reducible assumption) | (with_reducible apply SOwnU.drew) | (with_reducible apply SOwnU.alloc))) hby); (try replace hS9 := Sls.below (by repeat (first | (with_reducible assumption) | (with_reducible apply Sls.drew))) hby); have sy := hby.size; (try simp only [World.size_alloc, World.size_drew] at sy); replace hQ := Fb.below (W := wr) (L := []) (by repeat (first | (with_reducible assumption) | (with_reducible apply Fb.drew) | (with_reducible apply Fb.other) | (with_reducible apply Fb.setAway) | (intro q hq; cases hq) | (have := hQ.kp.size; (try simp only [World.size_alloc, World.size_drew, World.size_setCell]); (try dsimp only); omega))) hby; clear hby))
            all_goals
              go_wp2_with fail
              go_meet
              case rel => exact ⟨rfl, hQ⟩
        case rest =>
          obtain ⟨rfl, hFb⟩ := hcut
          clear q0 q1 q2 q3 q4 q5 q6 hQ tok2 tok3
          go_wp2
          go_roundw
          case rel => exact ⟨k + 1, by omega, by omega, by go_num, ⟨hQ4.kp.trans (hFb.kp.mono hQ4.kp.size), fun p hp => by cases hp⟩⟩
          case measure => simp [intOf]; omega
      · have hk66 : k = 6 := by omega
        subst hk66
        go_wp2
        go_ret
        exact ⟨rfl, HF.out.trans (hQ4.kp.mono HF.out.size)⟩
  · have hN := lacks_bad (H := H) (L := L) k1
    rw [hN]
    clear k1
    go_wp2_with fail
    go_fit (sSealLacks_any hv lv H L g c lk _ _ P M ti _ hH hS hp hm (by omega)); rintro e w4 ⟨rfl, hb4⟩
    replace hF := hF.below hb4
    clear hb4
    rw [hN]
    clear hN
    go_wp2
    go_ret
    exact ⟨rfl, hF.kp⟩
end Go.Proofs.YtiocomefkckbfaaDoor
