/- The draw of a seal, and of seals. FnSealHas: the walk. FnSealLacks: the walk. -/
import Derived.Test.YtiocomefkckbfaaDoorZ23
import Derived.Test.YtiocomefkckbfaaDoorZ13
set_option linter.unusedSimpArgs false
set_option linter.unusedVariables false
namespace Go.Proofs.YtiocomefkckbfaaDoor
open Go.RowKit

/-- Numbers that lie between two blocks. -/
def Ib (w : World) (B U : Nat) (v : Value) (L : List Int) : Prop := Ints w v L ∧ ∀ g, v.ownBlock = some g → B ≤ g ∧ g < U
theorem Ib.kp {w w' : World} {B U r : Nat} {v : Value} {L : List Int} (h : Ib w B U v L) (K : Kp r w w') (hr : r < B) : Ib w' B U v L := ⟨Rows.kp h.1 K (B := B) (fun g hg => (h.2 g hg).1) hr, h.2⟩
theorem Ib.alloc {w : World} {B U : Nat} {v : Value} {L : List Int} (h : Ib w B U v L) (o : Obj) : Ib (w.alloc o) B U v L := ⟨Rows.alloc h.1 o, h.2⟩
theorem Ib.set {w : World} {B U : Nat} {v : Value} {L : List Int} (h : Ib w B U v L) {p : Addr} (hp : p.block < B ∨ U ≤ p.block) (u : Value) : Ib (w.setCell p u) B U v L := ⟨Rows.setO h.1 (fun e => by have := h.2 _ e; omega) u, h.2⟩
theorem Ib.set5 {w : World} {B U n : Nat} {v : Value} {L : List Int} (h : Ib w B U v L) (hn : n < B ∨ U ≤ n) (u0 u1 u2 u3 u4 : Value) : Ib (((((w.setCell ⟨n, 0, none⟩ u0).setCell ⟨n, 1, none⟩ u1).setCell ⟨n, 2, none⟩ u2).setCell ⟨n, 3, none⟩ u3).setCell ⟨n, 4, none⟩ u4) B U v L :=
  ((((h.set (p := ⟨n, 0, none⟩) hn u0).set (p := ⟨n, 1, none⟩) hn u1).set (p := ⟨n, 2, none⟩) hn u2).set (p := ⟨n, 3, none⟩) hn u3).set (p := ⟨n, 4, none⟩) hn u4
/-- One's own seals, all between two blocks. -/
def SOwnU (w : World) (B U : Nat) (v : Value) (L : List Sl) : Prop := ∃ ds, Own 28 w B v 5 encS ds ∧ SRel w B U v ds L ∧ ∀ g, v.ownBlock = some g → g < U
theorem SOwn.toU {w : World} {B : Nat} {v : Value} {L : List Sl} (h : SOwn w B v L) : SOwnU w B w.heap.size v L := by
  obtain ⟨ds, h1, h2⟩ := h; exact ⟨ds, h1, h2, h1.lt⟩
theorem SOwnU.kp {w w' : World} {B U r : Nat} {v : Value} {L : List Sl} (h : SOwnU w B U v L) (K : Kp r w w') (hr : r < B) : SOwnU w' B U v L := by
  obtain ⟨ds, h1, h2, h3⟩ := h; exact ⟨ds, h1.kp K hr, h2.kp K hr, h3⟩
theorem SOwnU.alloc {w : World} {B U : Nat} {v : Value} {L : List Sl} (h : SOwnU w B U v L) (o : Obj) : SOwnU (w.alloc o) B U v L := by
  obtain ⟨ds, h1, h2, h3⟩ := h; exact ⟨ds, h1.alloc o, h2.below ((Below.refl _ _).alloc (Nat.le_refl _) o), h3⟩
theorem SOwnU.set {w : World} {B U : Nat} {v : Value} {L : List Sl} (h : SOwnU w B U v L) {p : Addr} (hp : p.block < B ∨ U ≤ p.block) (u : Value) : SOwnU (w.setCell p u) B U v L := by
  obtain ⟨ds, h1, h2, h3⟩ := h
  refine ⟨ds, ownsRow_setCell_other h1 (fun e => by have := h3 _ e; have := h1.ge _ e; omega) u, ⟨h2.1, fun k s hk => ?_⟩, h3⟩
  obtain ⟨y, e1, e2, e3, e4⟩ := h2.2 k s hk
  exact ⟨y, e1, Rows.setO e2 (fun e => by have := e4 _ e; omega) u, e3, e4⟩
theorem SOwnU.set5 {w : World} {B U n : Nat} {v : Value} {L : List Sl} (h : SOwnU w B U v L) (hn : n < B ∨ U ≤ n) (u0 u1 u2 u3 u4 : Value) : SOwnU (((((w.setCell ⟨n, 0, none⟩ u0).setCell ⟨n, 1, none⟩ u1).setCell ⟨n, 2, none⟩ u2).setCell ⟨n, 3, none⟩ u3).setCell ⟨n, 4, none⟩ u4) B U v L :=
  ((((h.set (p := ⟨n, 0, none⟩) hn u0).set (p := ⟨n, 1, none⟩) hn u1).set (p := ⟨n, 2, none⟩) hn u2).set (p := ⟨n, 3, none⟩) hn u3).set (p := ⟨n, 4, none⟩) hn u4
theorem SOwnU.sls {w : World} {B U : Nat} {v : Value} {L : List Sl} (h : SOwnU w B U v L) : Sls w v L := by
  obtain ⟨ds, h1, h2, -⟩ := h
  exact ⟨ds, h1.rows (fun _ => rfl), h2.1, fun k s hk => by obtain ⟨u, a, b, -⟩ := h2.2 k s hk; exact ⟨u, a, b⟩⟩
/-- A seal of one's own row. -/
theorem SOwn.at {w : World} {B b off n cap : Nat} {L : List Sl} (h : SOwn w B (.slice (some ⟨b, off, none⟩) n cap) L) {k : Nat} {s : Sl} (hk : L[k]? = some s) :
    ∃ a m c, w.cell? ⟨b, off + k * 5, none⟩ = some (.int .i64 s.1) ∧ w.cell? ⟨b, off + k * 5 + 1, none⟩ = some (.int .i64 s.2.1) ∧ w.cell? ⟨b, off + k * 5 + 2, none⟩ = some (.int .i64 s.2.2.1) ∧ w.cell? ⟨b, off + k * 5 + 3, none⟩ = some (.int .i64 s.2.2.2.1) ∧ w.cell? ⟨b, off + k * 5 + 4, none⟩ = some (.slice a m c) ∧ Ib w B w.heap.size (.slice a m c) s.2.2.2.2 := by
  obtain ⟨ds, h1, h2⟩ := h
  have h1 := h1.rows (fun _ => rfl)
  obtain ⟨u, hu, hr, -, hb⟩ := h2.2 k s hk
  obtain ⟨ao, n', c', rfl, _⟩ := Ints.sl hr
  have c0 := Rows.get h1 hu (j := 0) rfl
  have c1 := Rows.get h1 hu (j := 1) rfl
  have c2 := Rows.get h1 hu (j := 2) rfl
  have c3 := Rows.get h1 hu (j := 3) rfl
  have c4 := Rows.get h1 hu (j := 4) rfl
  exact ⟨ao, n', c', c0, c1, c2, c3, c4, hr, hb⟩
theorem SmS.withTo {s : Sl} (h : SmS s) {t : Int} (h1 : 0 ≤ t) (h2 : t ≤ 100) : SmS (s.1, t, s.2.2.1, s.2.2.2.1, s.2.2.2.2) := ⟨h.1, ⟨by dsimp only; omega, by dsimp only; omega⟩, h.2.2⟩
set_option maxRecDepth 100000 in
set_option maxHeartbeats 8000000 in
theorem drawSealHas_any (v : Value) (w : World) (h : Given w v) :
    Calls Tryd.prog 11 #[v] w fun e w' => ∃ (lv pv : Value) (L : List Sl) (sb st sf sn : Int) (sp : List Int), e = .returned (.tuple #[lv, .agg #[.int .i64 sb, .int .i64 st, .int .i64 sf, .int .i64 sn, pv]]) ∧ Sls w' lv L ∧ Ints w' pv sp ∧ L.length ≤ 8 ∧ (∀ s ∈ L, SmS s) ∧ SmS (sb, st, sf, sn, sp) ∧ Below w.heap.size w w' := by
  have hF := (Fr.start (w.heap.size + 1) w).alloc' [.int .i64 0, .int .i64 0, .int .i64 0, .int .i64 0, .slice none 0 0] 28 (by omega)
  have hG := h.alloc (.cells #[.int .i64 0, .int .i64 0, .int .i64 0, .int .i64 0, .slice none 0 0] 28)
  obtain ⟨n2, hn2⟩ : ∃ n, w.heap.size = n := ⟨_, rfl⟩
  go_enter Tryd.func11, Tryd.ntmps11
  go_wp2_with fail
  refine (open_any v _ hG).mono ?_; rintro e w1 ⟨rfl, hR, hb1⟩
  simp only [World.size_alloc, hn2] at hR hF
  have hr1 := hR.lt
  replace hF := hF.below hb1
  clear hG hb1
  go_wp2_with fail
  refine (l92Sealed_any _ 0 _ hR (by omega)).mono ?_; rintro e w2 ⟨hv, lv, pv, mv, H, L, f, b, lk, ti, P, M, rfl, -, hS, hP, hM, hP4, -, -, hL8, hLs, ht0, ht6, hfb, ⟨k2, hk2, hR2⟩, hK2⟩
  replace hF := hF.call hK2
  obtain ⟨o1, c1, rfl, -⟩ := hP.it.1.ex
  obtain ⟨o2, c2, rfl, -⟩ := hM.it.1.ex
  obtain ⟨uo, uc, rfl⟩ := hS.sl
  have HLs := Lib.hid hLs
  clear hLs hK2 hR
  have hr2 := hR2.lt
  obtain ⟨n7, hn7⟩ : ∃ n, w2.heap.size = n := ⟨_, rfl⟩
  replace hF := hF.alloc [.int .i64 f, .int .i64 b, .slice o1 P.length c1, .int .i64 lk, .slice o2 M.length c2] 35 hr2
  replace hP := hP.below ((Below.refl _ _).alloc (Nat.le_refl _) (.cells #[.int .i64 f, .int .i64 b, .slice o1 P.length c1, .int .i64 lk, .slice o2 M.length c2] 35))
  replace hS := hS.alloc (.cells #[.int .i64 f, .int .i64 b, .slice o1 P.length c1, .int .i64 lk, .slice o2 M.length c2] 35)
  replace hR2 := hR2.alloc (.cells #[.int .i64 f, .int .i64 b, .slice o1 P.length c1, .int .i64 lk, .slice o2 M.length c2] 35)
  rw [hn7] at hF
  have o := hF.own; simp only [World.size_alloc, World.size_drew, World.size_setCell, List.mem_cons, List.not_mem_nil, or_false, forall_eq_or_imp, forall_eq, At, and_true, Nat.zero_add, Nat.reduceAdd, List.set_cons_zero, List.set_cons_succ] at o
  go_upto_region 3 with (fail)
  go_cut [26] (fun s26 wx => ∃ (bo : Bool) (k' : Nat), s26 = .bool bo ∧ Hid (bo = true → 0 < L.length) ∧ k' ≤ 501 ∧ SOwn wx (w1.heap.size + 1) (.slice uo L.length uc) L ∧ Rz wx (n2 + 1) [] (.slice o1 P.length c1) P ∧ Rd wx (n2 + 1) k' ∧ Fr (n2 + 1) w wx [(n7, [.int .i64 f, .int .i64 b, .slice o1 P.length c1, .int .i64 lk, .slice o2 M.length c2]), (n2, [.int .i64 0, .int .i64 0, .int .i64 0, .int .i64 0, .slice none 0 0])])
  case first =>
    by_cases h0 : L.length = 0
    · have d0 : decide (0 < L.length) = false := by simp; exact List.length_eq_zero_iff.1 h0
      clear h0
      go_wp2_with fail
      go_meet
      case rel => exact ⟨false, k2, rfl, fun q => (by cases q), by omega, hS, hP, hR2, hF⟩
    · have d0 : decide (0 < L.length) = true := decide_eq_true (by omega)
      have hp0 : Hid (0 < L.length) := (by omega : 0 < L.length)
      clear h0
      go_wp2_with fail
      refine (pick_any _ _ _ _ hR2 (by omega) (by omega) (by omega)).mono ?_; rintro e wy ⟨ty, rfl, uy, ly, hRy, hKy⟩
      replace hF := hF.call hKy
      replace hP := hP.kp hKy
      replace hS := hS.kp hKy (by omega)
      clear hKy hR2 o
      by_cases hz : ty = 0
      · subst hz
        go_wp2_with fail
        go_meet
        case rel => exact ⟨false, k2 + 1, rfl, fun q => (by cases q), by omega, hS, hP, hRy, hF⟩
      · have dz : decide (0 < ty) = true := decide_eq_true (by omega)
        clear hz
        go_wp2_with fail
        go_meet
        case rel => exact ⟨true, k2 + 1, rfl, fun _ => hp0.out, by omega, hS, hP, hRy, hF⟩
  case rest =>
    clear hF hP hS hR2 o
    obtain ⟨bo, k', rfl, hlen, hk', hS, hP, hR, hF⟩ := hcut
    cases bo with
    | true =>
      have hl0 : Hid (0 < L.length) := hlen.out rfl
      clear hlen hP
      obtain ⟨b1, p1, rfl⟩ := hS.sls.adr hl0.out
      have o := hF.own; simp only [World.size_alloc, World.size_drew, World.size_setCell, List.mem_cons, List.not_mem_nil, or_false, forall_eq_or_imp, forall_eq, At, and_true, Nat.zero_add, Nat.reduceAdd, List.set_cons_zero, List.set_cons_succ] at o
      go_wp2_with fail
      refine (pick_any _ _ _ _ hR (by omega) (by have := hl0.out; omega) (by omega)).mono ?_; rintro e wy ⟨ty, rfl, uy, ly, hRy, hKy⟩
      obtain ⟨i, rfl⟩ := Int.eq_ofNat_of_zero_le uy
      obtain ⟨s, hsk⟩ := get_lt (L := L) (k := i) (by omega)
      replace hF := hF.call hKy
      replace hS := hS.kp hKy (by omega)
      have hr9 := hRy.lt
      obtain ⟨a, m, c, q0, q1, q2, q3, q4, hU⟩ := hS.at hsk
      have hsm := Lib.hid (HLs.out s (List.mem_of_getElem? hsk))
      obtain ⟨sb, st, sf, sn, sp⟩ := s
      dsimp only at q0 q1 q2 q3 q4 hU
      have h79 : n7 < wy.heap.size := (hF.own _ (List.mem_cons_self ..)).2.2.2
      replace hS := hS.toU
      clear hsk hKy hR
      obtain ⟨n9, hn9⟩ : ∃ n, wy.heap.size = n := ⟨_, rfl⟩
      replace hF := hF.alloc [.int .i64 sb, .int .i64 st, .int .i64 sf, .int .i64 sn, .slice a m c] 28 hr9
      replace hS := hS.alloc (.cells #[.int .i64 sb, .int .i64 st, .int .i64 sf, .int .i64 sn, .slice a m c] 28)
      replace hU := hU.alloc (.cells #[.int .i64 sb, .int .i64 st, .int .i64 sf, .int .i64 sn, .slice a m c] 28)
      replace hRy := hRy.alloc (.cells #[.int .i64 sb, .int .i64 st, .int .i64 sf, .int .i64 sn, .slice a m c] 28)
      have h29 : n2 < n9 := by omega
      rw [hn9] at hF hU hS h79
      clear o
      have o := hF.own; simp only [World.size_alloc, World.size_drew, World.size_setCell, List.mem_cons, List.not_mem_nil, or_false, forall_eq_or_imp, forall_eq, At, and_true, Nat.zero_add, Nat.reduceAdd, List.set_cons_zero, List.set_cons_succ] at o
      go_wp2_with fail
      refine (pick_any _ _ _ _ hRy (by omega) (by omega) (by omega)).mono ?_; rintro e wz ⟨tz, rfl, uz, lz, hRz, hKz⟩
      replace hF := hF.call hKz
      replace hS := hS.kp hKz (by omega)
      replace hU := hU.kp hKz (by omega)
      clear hKz hRy o q0 q1 q2 q3 q4 hn9
      have o := hF.own; simp only [World.size_alloc, World.size_drew, World.size_setCell, List.mem_cons, List.not_mem_nil, or_false, forall_eq_or_imp, forall_eq, At, and_true, Nat.zero_add, Nat.reduceAdd, List.set_cons_zero, List.set_cons_succ] at o
      by_cases hz : tz = 0
      · subst hz
        go_wp2_with fail
        refine (pick_any _ _ _ _ hRz (by omega) (by omega) (by omega)).mono ?_; rintro e wv ⟨tv, rfl, uv, lv, -, hKv⟩
        obtain ⟨sv, hsv⟩ : ∃ z, 1 + tv = z := ⟨_, rfl⟩
        replace hF := hF.call hKv
        replace hS := hS.kp hKv (by omega)
        replace hU := hU.kp hKv (by omega)
        clear hKv hRz o
        have o := hF.own; simp only [World.size_alloc, World.size_drew, World.size_setCell, List.mem_cons, List.not_mem_nil, or_false, forall_eq_or_imp, forall_eq, At, and_true, Nat.zero_add, Nat.reduceAdd, List.set_cons_zero, List.set_cons_succ] at o
        go_wp2_with fail
        replace hF := hF.set 1 (.int .i64 sv) (by simp) (by simp; omega)
        replace hS := hS.set (p := ⟨n9, 1, none⟩) (Or.inr (Nat.le_refl _)) (.int .i64 sv)
        replace hU := hU.set (p := ⟨n9, 1, none⟩) (Or.inr (Nat.le_refl _)) (.int .i64 sv)
        clear o
        have o := hF.own; simp only [World.size_alloc, World.size_drew, World.size_setCell, List.mem_cons, List.not_mem_nil, or_false, forall_eq_or_imp, forall_eq, At, and_true, Nat.zero_add, Nat.reduceAdd, List.set_cons_zero, List.set_cons_succ] at o
        go_region
        go_wp2_with fail
        obtain ⟨wq, hwq, e1, -⟩ := put5 (hF.sub (L' := [(n2, [.int .i64 0, .int .i64 0, .int .i64 0, .int .i64 0, .slice none 0 0]), (n9, [.int .i64 sb, .int .i64 sv, .int .i64 sf, .int .i64 sn, .slice a m c])]) (by intro p hp; simp only [List.mem_cons, List.not_mem_nil, or_false] at hp ⊢; rcases hp with rfl | rfl <;> simp)) (by simp; omega) (.int .i64 sb) (.int .i64 sv) (.int .i64 sf) (.int .i64 sn) (.slice a m c)
        have hS5 := SOwnU.set5 hS (n := n2) (Or.inl (by omega)) (.int .i64 sb) (.int .i64 sv) (.int .i64 sf) (.int .i64 sn) (.slice a m c)
        have hU5 := Ib.set5 hU (n := n2) (Or.inl (by omega)) (.int .i64 sb) (.int .i64 sv) (.int .i64 sf) (.int .i64 sn) (.slice a m c)
        rw [← hwq] at hS5 hU5
        rw [← hwq]
        clear hwq o hF hU hS
        have hF := e1
        have o := hF.own; simp only [World.size_alloc, World.size_drew, World.size_setCell, List.mem_cons, List.not_mem_nil, or_false, forall_eq_or_imp, forall_eq, At, and_true, Nat.zero_add, Nat.reduceAdd, List.set_cons_zero, List.set_cons_succ] at o
        refine bodyPost_ret (v := .tuple #[.slice (some ⟨b1, p1, none⟩) L.length uc, .agg #[.int .i64 sb, .int .i64 sv, .int .i64 sf, .int .i64 sn, .slice a m c]]) ?_ rfl ?_
        · simp [results, Tryd.results11, go_sem, o]
        · exact ⟨_, _, L, sb, sv, sf, sn, sp, rfl, hS5.sls.below (Below.refl _ _).drew, Rows.drew hU5.1, hL8, HLs.out, (hsm.out.withTo (t := sv) (by omega) (by omega)), (e1.kp.below (by omega) (Nat.le_refl _)).drew⟩
      · have dz : (tz == 0) = false := by simp [hz]
        go_wp2_with fail
        go_region
        go_wp2_with fail
        obtain ⟨wq, hwq, e1, -⟩ := put5 (hF.sub (L' := [(n2, [.int .i64 0, .int .i64 0, .int .i64 0, .int .i64 0, .slice none 0 0]), (n9, [.int .i64 sb, .int .i64 st, .int .i64 sf, .int .i64 sn, .slice a m c])]) (by intro p hp; simp only [List.mem_cons, List.not_mem_nil, or_false] at hp ⊢; rcases hp with rfl | rfl <;> simp)) (by simp; omega) (.int .i64 sb) (.int .i64 st) (.int .i64 sf) (.int .i64 sn) (.slice a m c)
        have hS5 := SOwnU.set5 hS (n := n2) (Or.inl (by omega)) (.int .i64 sb) (.int .i64 st) (.int .i64 sf) (.int .i64 sn) (.slice a m c)
        have hU5 := Ib.set5 hU (n := n2) (Or.inl (by omega)) (.int .i64 sb) (.int .i64 st) (.int .i64 sf) (.int .i64 sn) (.slice a m c)
        rw [← hwq] at hS5 hU5
        rw [← hwq]
        clear hwq o hF hU hS
        have hF := e1
        have o := hF.own; simp only [World.size_alloc, World.size_drew, World.size_setCell, List.mem_cons, List.not_mem_nil, or_false, forall_eq_or_imp, forall_eq, At, and_true, Nat.zero_add, Nat.reduceAdd, List.set_cons_zero, List.set_cons_succ] at o
        refine bodyPost_ret (v := .tuple #[.slice (some ⟨b1, p1, none⟩) L.length uc, .agg #[.int .i64 sb, .int .i64 st, .int .i64 sf, .int .i64 sn, .slice a m c]]) ?_ rfl ?_
        · simp [results, Tryd.results11, go_sem, o]
        · exact ⟨_, _, L, sb, st, sf, sn, sp, rfl, hS5.sls.below (Below.refl _ _).drew, Rows.drew hU5.1, hL8, HLs.out, hsm.out, (e1.kp.below (by omega) (Nat.le_refl _)).drew⟩
    | false =>
      clear hlen
      replace hP := hP.with (n := n2) (by omega)
      have o := hF.own; simp only [World.size_alloc, World.size_drew, World.size_setCell, List.mem_cons, List.not_mem_nil, or_false, forall_eq_or_imp, forall_eq, At, and_true, Nat.zero_add, Nat.reduceAdd, List.set_cons_zero, List.set_cons_succ] at o
      go_wp2_with fail
      go_region
      go_wp2_with fail
      obtain ⟨wq, hwq, e1, e2⟩ := put5 (hF.sub (L' := [(n2, [.int .i64 0, .int .i64 0, .int .i64 0, .int .i64 0, .slice none 0 0])]) (by intro p hp; simp only [List.mem_cons, List.not_mem_nil, or_false] at hp ⊢; rcases hp with rfl <;> simp)) (by simp) (.int .i64 1) (.int .i64 ti) (.int .i64 f) (.int .i64 b) (.slice o1 P.length c1)
      have hS5 := SOwn.set5 hS (n := n2) (by omega) (.int .i64 1) (.int .i64 ti) (.int .i64 f) (.int .i64 b) (.slice o1 P.length c1)
      rw [← hwq] at hS5
      rw [← hwq]
      have hP5 := e2 _ _ _ (by simp) hP
      clear hwq o hF hS hP
      have hF := e1
      have o := hF.own; simp only [World.size_alloc, World.size_drew, World.size_setCell, List.mem_cons, List.not_mem_nil, or_false, forall_eq_or_imp, forall_eq, At, and_true, Nat.zero_add, Nat.reduceAdd, List.set_cons_zero, List.set_cons_succ] at o
      refine bodyPost_ret (v := .tuple #[.slice uo L.length uc, .agg #[.int .i64 1, .int .i64 ti, .int .i64 f, .int .i64 b, .slice o1 P.length c1]]) ?_ rfl ?_
      · simp [results, Tryd.results11, go_sem, o]
      · exact ⟨_, _, L, 1, ti, f, b, P, rfl, hS5.sls.below (Below.refl _ _).drew, Rows.drew hP5.it.1, hL8, HLs.out, ⟨by simp, by dsimp only; omega, by have := hfb; unfold SmR at this; dsimp only; omega, by have := hfb; unfold SmR at this; dsimp only; omega, by have := hP4.1; dsimp only; omega, fun x hx => by have := hP4.2 x hx; unfold Bts at this; omega⟩, (e1.kp.below (by omega) (Nat.le_refl _)).drew⟩
end Go.Proofs.YtiocomefkckbfaaDoor
set_option linter.unusedSimpArgs false
set_option linter.unusedVariables false
namespace Go.Proofs.YtiocomefkckbfaaDoor
open Go.RowKit Go.Maps Go.WideMaps

theorem sls_nil (w : World) : Sls w (.slice none 0 0) [] := ⟨[], Rows.nil w _ _ (Nat.zero_le _) _ _, rfl, fun k s h => by simp at h⟩
theorem dm_step {L : List Sl} {k : Nat} {p : Sl} {sb st sf sn : Int} {sp : List Int} {B C : Bool} (hB : B = decide ((sb, st, sf, sn, sp) ∈ L.take k)) (hp : L[k]? = some p) (hC : C = true ↔ B = true ∨ (sb, st, sf, sn, sp) = p) : C = decide ((sb, st, sf, sn, sp) ∈ L.take (k + 1)) := by
  rw [Bool.eq_iff_iff, hC, hB, take_succ' hp]
  simp
set_option maxRecDepth 100000 in
set_option maxHeartbeats 8000000 in
theorem FnSealHas_walk (a0 : Option Addr) (n0 c0 : Nat) (w : World) (h0 : Given w (.slice a0 n0 c0)) (htab : Tab w) :
    Calls Tryd.prog 3 #[.slice a0 n0 c0] w fun e w' => e = .returned (.bool true) ∧ Below w.heap.size w w' := by
  by_cases hn0 : 1048576 < n0
  · have e0 : decide (1048576 < (n0 : Int)) = true := by simp; omega
    go_enter Tryd.func3, Tryd.ntmps3
    go_wp2
    go_ret
    exact ⟨rfl, Below.refl _ _⟩
  have e0 : decide (1048576 < (n0 : Int)) = false := by simp; omega
  have hF := Fb.start w
  go_enter Tryd.func3, Tryd.ntmps3
  go_wp2_with fail
  refine (drawSealHas_any _ _ h0).mono ?_; rintro e w1 ⟨lv, pv, L, sb, st, sf, sn, sp, rfl, hS, hp, hL8, hLs, hsm, hb1⟩
  clear h0
  obtain ⟨o1, c1, rfl, -⟩ := hp.ex
  obtain ⟨ao, n, cap, rfl, hn, hnc, hcap⟩ := hS.sl
  have hn8 : n ≤ 8 := by have := hn.out; omega
  replace hF := (hF.below hb1).alloc [.int .i64 sb, .int .i64 st, .int .i64 sf, .int .i64 sn, .slice o1 sp.length c1] 28
  have hb2 := (Below.refl w1.heap.size w1).alloc (Nat.le_refl _) (.cells #[.int .i64 sb, .int .i64 st, .int .i64 sf, .int .i64 sn, .slice o1 sp.length c1] 28)
  replace hS := hS.below hb2
  replace hp := Rows.below hp hb2
  replace htab := tab_below (tab_below htab hb1) hb2
  have HLs := Lib.hid hLs
  have HSM := Lib.hid hsm
  have HL8 := Lib.hid hL8
  clear hb1 hb2 hLs hsm hL8
  obtain ⟨n5, hn5⟩ : ∃ n, w1.heap.size = n := ⟨_, rfl⟩
  rw [hn5] at hF
  have o := hF.own; simp only [World.size_alloc, World.size_drew, World.size_setCell, List.mem_cons, List.not_mem_nil, or_false, forall_eq_or_imp, forall_eq, At, and_true, Nat.zero_add, Nat.reduceAdd, List.set_cons_zero, List.set_cons_succ] at o
  go_wp2_with fail
  go_fit (iSealHas_any _ _ L (sb, st, sf, sn, sp) _ hS hp (by have := HL8.out; omega) HLs.out HSM.out htab); rintro e w2 ⟨rfl, hb3⟩
  replace hF := hF.below hb3
  replace hS := hS.below hb3
  replace hp := Rows.below hp hb3
  replace htab := tab_below htab hb3
  clear hb3 o
  have o := hF.own; simp only [World.size_alloc, World.size_drew, World.size_setCell, List.mem_cons, List.not_mem_nil, or_false, forall_eq_or_imp, forall_eq, At, and_true, Nat.zero_add, Nat.reduceAdd, List.set_cons_zero, List.set_cons_succ] at o
  go_wp2_with fail
  go_fit (sSealHas_any _ _ L sb st sf sn sp _ hS hp); rintro e w3 ⟨rfl, hb4⟩
  replace hF := hF.below hb4
  replace hS := hS.below hb4
  replace hp := Rows.below hp hb4
  replace htab := tab_below htab hb4
  clear hb4 o
  have o := hF.own; simp only [World.size_alloc, World.size_drew, World.size_setCell, List.mem_cons, List.not_mem_nil, or_false, forall_eq_or_imp, forall_eq, At, and_true, Nat.zero_add, Nat.reduceAdd, List.set_cons_zero, List.set_cons_succ] at o
  obtain ⟨N, hN⟩ : ∃ N, decide ((sb, st, sf, sn, sp) ∈ L) = N := ⟨_, rfl⟩
  rw [hN]
  have HN := Lib.hid hN
  have hNN : (N != N) = false := by simp
  clear hN
  go_wp2
  have HC := Lib.hid (⟨o.1.1, o.1.2.2.1, o.1.2.2.2.2.1, o.1.2.2.2.2.2.2.1, o.1.2.2.2.2.2.2.2.2.1⟩ : w3.cell? ⟨n5, 0, none⟩ = some (.int .i64 sb) ∧ w3.cell? ⟨n5, 1, none⟩ = some (.int .i64 st) ∧ w3.cell? ⟨n5, 2, none⟩ = some (.int .i64 sf) ∧ w3.cell? ⟨n5, 3, none⟩ = some (.int .i64 sn) ∧ w3.cell? ⟨n5, 4, none⟩ = some (.slice o1 sp.length c1))
  have HS := Lib.hid hS
  have HP5 := Lib.hid hp
  have HT := Lib.hid htab
  have HF := Lib.hid hF.kp
  have hQ := Fb.start w3
  clear hS hp htab hF o hn5
  go_loopw [6, 7] (fun s6 s7 wr => ∃ (k : Nat) (B : Bool), k ≤ n ∧ s6 = .bool B ∧ s7 = .int .i64 k ∧ Hid (B = decide ((sb, st, sf, sn, sp) ∈ L.take k)) ∧ Fb w3 wr []) (fun _ i _ => n - (intOf i).toNat)
  case atStart => exact ⟨0, false, Nat.zero_le _, rfl, rfl, by show _ = _; simp, hQ⟩
  case round =>
    clear hQ
    obtain ⟨k, B, hk, rfl, rfl, ht, hQ⟩ := hrel
    by_cases hlt : k < n
    · obtain ⟨b1, p1, rfl⟩ := HS.out.adr (by omega)
      obtain ⟨p, hpk⟩ := get_of hn.out hlt
      obtain ⟨a1, m1, k1, e0, e1, e2, e3, e4, g1⟩ := HS.out.at hpk
      obtain ⟨pb, pt, pf, pn, pp⟩ := p
      dsimp only at e0 e1 e2 e3 e4 g1
      have HP := Lib.hid hpk
      clear hpk
      cases B with
      | true =>
        have ht2 : Hid (true = decide ((sb, st, sf, sn, sp) ∈ L.take (k + 1))) := dm_step ht.out HP.out ⟨fun _ => Or.inl rfl, fun _ => rfl⟩
        clear e0 e1 e2 e3 e4 g1
        go_wp2
        first | refine wp_region_new (by kernel_rfl) (by kernel_rfl) ?_ | refine wp_region_lex ?_
        repeat (any_goals (first | go_big_quiet_step ((fail)) | (refine wpQuiet_step (fun K hK => ?_); go_simp; split <;> (rename_i hg; refine hK _ ?_; clear hK K; simp only [hg, decide_true, decide_false]))))
        all_goals (refine wpQuiet_nil ?_; intro x)
        go_wp2
        go_roundw
        case rel => exact ⟨k + 1, true, by omega, rfl, by go_num, ht2, hQ.cl ‹_›⟩
        case measure => simp [intOf]; omega
      | false =>
        have HG := Lib.hid (fun z : Cl wr.heap.size wr => (show Ints z.W _ pp ∧ Ints z.W _ sp from ⟨Rows.below g1 (hQ.cl z).kp, Rows.below HP5.out (hQ.cl z).kp⟩))
        clear g1
        have x0 := fun z : Cl wr.heap.size wr => Cl.old hQ z e0
        have x1 := fun z : Cl wr.heap.size wr => Cl.old hQ z e1
        have x2 := fun z : Cl wr.heap.size wr => Cl.old hQ z e2
        have x3 := fun z : Cl wr.heap.size wr => Cl.old hQ z e3
        have x4 := fun z : Cl wr.heap.size wr => Cl.old hQ z e4
        have y0 := fun z : Cl wr.heap.size wr => Cl.old hQ z HC.out.1
        have y1 := fun z : Cl wr.heap.size wr => Cl.old hQ z HC.out.2.1
        have y2 := fun z : Cl wr.heap.size wr => Cl.old hQ z HC.out.2.2.1
        have y3 := fun z : Cl wr.heap.size wr => Cl.old hQ z HC.out.2.2.2.1
        have y4 := fun z : Cl wr.heap.size wr => Cl.old hQ z HC.out.2.2.2.2
        clear e0 e1 e2 e3 e4
        by_cases i1 : pb = sb
        · have j1 : (pb == sb) = true := by simp [i1]
          by_cases i2 : pt = st
          · have j2 : (pt == st) = true := by simp [i2]
            by_cases i3 : pf = sf ∧ pn = sn
            · have j3 : ∀ w, (binOp .eql 25 (.agg #[.int .i64 pf, .int .i64 pn]) (.agg #[.int .i64 sf, .int .i64 sn])).run Tryd.prog w = .ok (.bool true) w := fun w => by rw [rng_eql]; simp [i3]
              obtain ⟨C, hC⟩ : ∃ C, decide (pp = sp) = C := ⟨_, rfl⟩
              have hCz := Lib.hid (fun (y : Cl wr.heap.size wr) => (show Calls Tryd.prog 14 #[.slice a1 m1 k1, .slice o1 sp.length c1] y.W fun e w' => e = .returned (.bool C) ∧ Below y.W.heap.size y.W w' from by have := lyInts_any _ _ pp sp y.W (HG.out y).1 (HG.out y).2; rwa [hC] at this))
              have ht2 : Hid (C = decide ((sb, st, sf, sn, sp) ∈ L.take (k + 1))) := dm_step ht.out HP.out ⟨fun e => Or.inr (by rw [← hC] at e; have e2 := of_decide_eq_true e; rw [i1, i2, i3.1, i3.2, e2]), fun e => (by rcases e with e | e; cases e; rw [← hC]; simp only [Prod.mk.injEq] at e; exact decide_eq_true e.2.2.2.2.symm)⟩
              clear i1 i2 i3 hC
              go_wp2
              first | refine wp_region_new (by kernel_rfl) (by kernel_rfl) ?_ | refine wp_region_lex ?_
              repeat (any_goals (first | go_big_quiet_step (((go_at_call 14; exact Calls.cl (hCz.out _)))) | (refine wpQuiet_step (fun K hK => ?_); go_simp; split <;> (rename_i hg; refine hK _ ?_; clear hK K; simp only [hg, decide_true, decide_false]))))
              all_goals (refine wpQuiet_nil ?_; intro x)
              go_wp2
              go_roundw
              case rel => exact ⟨k + 1, C, by omega, rfl, by go_num, ht2, hQ.cl x⟩
              case measure => simp [intOf]; omega
            · have j3 : ∀ w, (binOp .eql 25 (.agg #[.int .i64 pf, .int .i64 pn]) (.agg #[.int .i64 sf, .int .i64 sn])).run Tryd.prog w = .ok (.bool false) w := fun w => by
                rw [rng_eql]
                have : (pf == sf && pn == sn) = false := by
                  rw [Bool.eq_false_iff]; intro g; simp at g; exact i3 g
                rw [this]
              have ht2 : Hid (false = decide ((sb, st, sf, sn, sp) ∈ L.take (k + 1))) := dm_step ht.out HP.out ⟨fun e => (by cases e), fun e => (by rcases e with e | e; cases e; exact absurd (by simpa only [Prod.mk.injEq] using e) (show ¬ (sb = pb ∧ st = pt ∧ sf = pf ∧ sn = pn ∧ sp = pp) from by (intro q; exact i3 ⟨q.2.2.1.symm, q.2.2.2.1.symm⟩)))⟩
              go_wp2
              first | refine wp_region_new (by kernel_rfl) (by kernel_rfl) ?_ | refine wp_region_lex ?_
              repeat (any_goals (first | go_big_quiet_step ((fail)) | (refine wpQuiet_step (fun K hK => ?_); go_simp; split <;> (rename_i hg; refine hK _ ?_; clear hK K; simp only [hg, decide_true, decide_false]))))
              all_goals (refine wpQuiet_nil ?_; intro x)
              go_wp2
              go_roundw
              case rel => exact ⟨k + 1, false, by omega, rfl, by go_num, ht2, hQ.cl x⟩
              case measure => simp [intOf]; omega
          · have j2 : (pt == st) = false := by simp [i2]
            have ht2 : Hid (false = decide ((sb, st, sf, sn, sp) ∈ L.take (k + 1))) := dm_step ht.out HP.out ⟨fun e => (by cases e), fun e => (by rcases e with e | e; cases e; exact absurd (by simpa only [Prod.mk.injEq] using e) (show ¬ (sb = pb ∧ st = pt ∧ sf = pf ∧ sn = pn ∧ sp = pp) from by (intro q; exact i2 q.2.1.symm)))⟩
            go_wp2
            first | refine wp_region_new (by kernel_rfl) (by kernel_rfl) ?_ | refine wp_region_lex ?_
            repeat (any_goals (first | go_big_quiet_step ((fail)) | (refine wpQuiet_step (fun K hK => ?_); go_simp; split <;> (rename_i hg; refine hK _ ?_; clear hK K; simp only [hg, decide_true, decide_false]))))
            all_goals (refine wpQuiet_nil ?_; intro x)
            go_wp2
            go_roundw
            case rel => exact ⟨k + 1, false, by omega, rfl, by go_num, ht2, hQ.cl x⟩
            case measure => simp [intOf]; omega
        · have j1 : (pb == sb) = false := by simp [i1]
          have ht2 : Hid (false = decide ((sb, st, sf, sn, sp) ∈ L.take (k + 1))) := dm_step ht.out HP.out ⟨fun e => (by cases e), fun e => (by rcases e with e | e; cases e; exact absurd (by simpa only [Prod.mk.injEq] using e) (show ¬ (sb = pb ∧ st = pt ∧ sf = pf ∧ sn = pn ∧ sp = pp) from by (intro q; exact i1 q.1.symm)))⟩
          go_wp2
          first | refine wp_region_new (by kernel_rfl) (by kernel_rfl) ?_ | refine wp_region_lex ?_
          repeat (any_goals (first | go_big_quiet_step ((fail)) | (refine wpQuiet_step (fun K hK => ?_); go_simp; split <;> (rename_i hg; refine hK _ ?_; clear hK K; simp only [hg, decide_true, decide_false]))))
          all_goals (refine wpQuiet_nil ?_; intro x)
          go_wp2
          go_roundw
          case rel => exact ⟨k + 1, false, by omega, rfl, by go_num, ht2, hQ.cl x⟩
          case measure => simp [intOf]; omega
    · have hBN : B = N := by
        rw [ht.out, ← HN.out, List.take_of_length_le (by have := hn.out; omega)]
      subst hBN
      have hBB : (B == B) = true := by simp
      have e0 := hQ.old HC.out.1
      have e1 := hQ.old HC.out.2.1
      have e2 := hQ.old HC.out.2.2.1
      have e3 := hQ.old HC.out.2.2.2.1
      have e4 := hQ.old HC.out.2.2.2.2
      have cI := iSealHas_any (.slice none 0 0) _ [] (sb, st, sf, sn, sp) wr (sls_nil wr) (Rows.below HP5.out hQ.kp) (by simp) (by simp) HSM.out (tab_below HT.out hQ.kp)
      rw [show decide ((sb, st, sf, sn, sp) ∈ ([] : List Sl)) = false by simp] at cI
      have CI := Lib.hid cI
      clear cI
      go_wp2_with fail
      go_fit CI.out; rintro e wy ⟨rfl, hby⟩
      replace hQ := hQ.below hby
      clear hby
      go_wp2
      go_ret
      exact ⟨rfl, HF.out.trans (hQ.kp.mono HF.out.size)⟩
end Go.Proofs.YtiocomefkckbfaaDoor
set_option linter.unusedSimpArgs false
set_option linter.unusedVariables false
namespace Go.Proofs.YtiocomefkckbfaaDoor
open Go.RowKit Go.Maps Go.WideMaps

theorem lacks_bad {H : List HoldD} {L : List Sl} {ti g c lk : Int} {P M : List Int} (h : ¬ SMk ti g c lk P M) : lacks H L ti g c lk P M = -2 := if_neg h
theorem lacks_no1 {H : List HoldD} {L : List Sl} {ti g c lk : Int} {P M : List Int} (h : SMk ti g c lk P M) (hh : H.any (holdsP (lastP P) g c) = false) : lacks H L ti g c lk P M = -1 := by
  unfold lacks; rw [if_pos h, hh]; rfl
theorem lacks_lk {H : List HoldD} {L : List Sl} {ti g c lk : Int} {P M : List Int} (h : SMk ti g c lk P M) (hh : H.any (holdsP (lastP P) g c) = true) : lacks H L ti g c lk P M = lk9 L (mkN ti g c P P.length) := by
  unfold lacks; rw [if_pos h, if_pos hh]
theorem lk9_ge {L : List Sl} : ∀ {K : List Sl}, (∀ s ∈ K, 1 ≤ s.1) → 0 ≤ lk9 L K
  | [], _ => by simp [lk9]
  | s :: r, h => by
    simp only [lk9]
    split
    · exact lk9_ge (fun y hy => h y (List.mem_cons_of_mem _ hy))
    · have := h s (List.mem_cons_self ..); omega
theorem lacks_ne2 {H : List HoldD} {L : List Sl} {ti g c lk : Int} {P M : List Int} (h : SMk ti g c lk P M) : (lacks H L ti g c lk P M == -2) = false := by
  rw [beq_eq_false_iff_ne]
  by_cases hh : H.any (holdsP (lastP P) g c) = true
  · rw [lacks_lk h hh]
    have := lk9_ge (L := L) (K := mkN ti g c P P.length) (fun s hs => by obtain ⟨k, hk, rfl⟩ := mkN_mem hs; exact (h.pos hk).1)
    omega
  · rw [lacks_no1 h (by simpa using hh)]; omega
set_option maxRecDepth 100000 in
set_option maxHeartbeats 8000000 in
theorem FnSealLacks_walk (a0 : Option Addr) (n0 c0 : Nat) (a : Addr) (w : World) (h0 : Given w (.slice a0 n0 c0)) (hE : EPath w a) (htab : Tab w) :
    Calls Tryd.prog 8 #[.slice a0 n0 c0] w fun e w' => e = .returned (.bool true) ∧ Below w.heap.size w w' := by
  by_cases hn0 : 1048576 < n0
  · have e0 : decide (1048576 < (n0 : Int)) = true := by simp; omega
    go_enter Tryd.func8, Tryd.ntmps8
    go_wp2
    go_ret
    exact ⟨rfl, Below.refl _ _⟩
  have e0 : decide (1048576 < (n0 : Int)) = false := by simp; omega
  have hF := Fb.start w
  go_enter Tryd.func8, Tryd.ntmps8
  go_wp2_with fail
  refine (drawSealLacks_any _ _ h0).mono ?_; rintro e w1 ⟨hv, lv, pv, mv, H, L, g, c, lk, ti, P, M, rfl, hH, hS, hp, hm, hP4, hM9, hH5, hL8, hLs, ht0, ht6, hb1⟩
  clear h0
  obtain ⟨o1, c1, rfl, hnc, hcc, -⟩ := hp.ex
  obtain ⟨o2, c2, rfl, -⟩ := hm.ex
  replace hF := (hF.below hb1).alloc [.int .i64 g, .int .i64 c, .slice o1 P.length c1, .int .i64 lk, .slice o2 M.length c2] 35
  have hb2 := (Below.refl w1.heap.size w1).alloc (Nat.le_refl _) (.cells #[.int .i64 g, .int .i64 c, .slice o1 P.length c1, .int .i64 lk, .slice o2 M.length c2] 35)
  replace hp := Rows.below hp hb2
  replace hm := Rows.below hm hb2
  replace hH := hH.below hb2
  replace hS := hS.below hb2
  replace hE := (hE.below hb1).below hb2
  replace htab := tab_below (tab_below htab hb1) hb2
  obtain ⟨n5, hn5⟩ : ∃ n, w1.heap.size = n := ⟨_, rfl⟩
  rw [hn5] at hF
  clear hb1 hb2
  have HLs := Lib.hid hLs
  clear hLs
  have o := hF.own; simp only [World.size_alloc, World.size_drew, World.size_setCell, List.mem_cons, List.not_mem_nil, or_false, forall_eq_or_imp, forall_eq, At, and_true, Nat.zero_add, Nat.reduceAdd, List.set_cons_zero, List.set_cons_succ] at o
  have HP4 := Lib.hid hP4
  have hPl := hP4.1
  clear hP4
  go_wp2_with fail
  go_fit (iSealLacks_any hv lv H L g c lk _ _ P M ti a _ hH hS hp hm hE htab (by omega) (by omega) HLs.out); rintro e w2 ⟨rfl, hb2⟩
  replace hF := hF.below hb2
  replace hp := Rows.below hp hb2
  replace hm := Rows.below hm hb2
  replace hE := hE.below hb2
  replace htab := tab_below htab hb2
  replace hH := hH.below hb2
  replace hS := hS.below hb2
  clear o hb2
  have o := hF.own; simp only [World.size_alloc, World.size_drew, World.size_setCell, List.mem_cons, List.not_mem_nil, or_false, forall_eq_or_imp, forall_eq, At, and_true, Nat.zero_add, Nat.reduceAdd, List.set_cons_zero, List.set_cons_succ] at o
  go_wp2_with fail
  go_fit (sSealLacks_any hv lv H L g c lk _ _ P M ti _ hH hS hp hm (by omega)); rintro e w3 ⟨rfl, hb3⟩
  replace hF := hF.below hb3
  replace hp := Rows.below hp hb3
  replace hm := Rows.below hm hb3
  replace hE := hE.below hb3
  replace htab := tab_below htab hb3
  replace hH := hH.below hb3
  replace hS := hS.below hb3
  clear o hb3
  have o := hF.own; simp only [World.size_alloc, World.size_drew, World.size_setCell, List.mem_cons, List.not_mem_nil, or_false, forall_eq_or_imp, forall_eq, At, and_true, Nat.zero_add, Nat.reduceAdd, List.set_cons_zero, List.set_cons_succ] at o
  by_cases k1 : SMk ti g c lk P M
  · have hne := lacks_ne2 (H := H) (L := L) k1
    obtain ⟨N, hN⟩ : ∃ N, lacks H L ti g c lk P M = N := ⟨_, rfl⟩
    rw [hN] at hne ⊢
    have hNN : (N != N) = false := by simp
    have HN := Lib.hid hN
    have HK := Lib.hid k1
    have hn0 : 0 < P.length := k1.1.2.1
    obtain ⟨b, off, rfl⟩ := Ints.some hp hn0
    obtain ⟨x, hx⟩ := get_lt (show P.length - 1 < P.length by omega)
    have hxl : Hid (lastP P = x) := getD_of hx
    have cx := Ints.get hp hx
    clear k1 hN hx
    go_wp2
    have cxz := fun z : Cl w3.heap.size w3 => z.cell cx
    have HVz := Lib.hid (fun z : Cl w3.heap.size w3 => hH.below z.below)
    have oc := fun x : Cl _ w3 => (Fb.cl hF x).own; simp only [World.size_alloc, World.size_drew, World.size_setCell, List.mem_cons, List.not_mem_nil, or_false, forall_eq_or_imp, forall_eq, At, and_true, Nat.zero_add, Nat.reduceAdd, List.set_cons_zero, List.set_cons_succ] at oc
    have d1 : ((P.length : Int) - 1).toNat = P.length - 1 := by omega
    have d2 : IntKind.i64.wrap ((P.length : Int) - 1) = (P.length : Int) - 1 := IntWalk.i64_in _ (by omega)
    have d3 : (0 : Int) ≤ (P.length : Int) - 1 := by omega
    have d4 : (P.length : Int) - 1 < (P.length : Int) := by omega
    obtain ⟨hb, hbe⟩ : ∃ z, H.any (holdsP x g c) = z := ⟨_, rfl⟩
    have hCz := Lib.hid (fun z : Cl w3.heap.size w3 => (show Calls Tryd.prog 25 #[hv, .int .i64 x, .agg #[.int .i64 g, .int .i64 c]] z.W fun e w' => e = .returned (.bool hb) ∧ Below z.W.heap.size z.W w' from by have := iHoldHas_any hv H x g c z.W (HVz.out z); rwa [hbe] at this))
    rw [← hxl.out] at hbe
    have HBE := Lib.hid hbe
    clear hbe HVz cx o
    cases hb with
    | false =>
      have hN1 : N = -1 := HN.out.symm.trans (lacks_no1 HK.out HBE.out)
      subst hN1
      first | refine wp_region_new (by kernel_rfl) (by kernel_rfl) ?_ | refine wp_region_lex ?_
      repeat (any_goals (first | go_big_quiet_step (((go_at_call 25; exact Calls.cl (hCz.out _)))) | (refine wpQuiet_step (fun K hK => ?_); go_simp; split <;> (rename_i hg; refine hK _ ?_; clear hK K; simp only [hg, decide_true, decide_false]))))
      all_goals (refine wpQuiet_nil ?_; intro x)
      go_wp2
      go_ret
      exact ⟨rfl, (hF.cl x).kp⟩
    | true =>
      have hN1 : Hid (lk9 L (mkN ti g c P P.length) = N) := (lacks_lk HK.out HBE.out).symm.trans HN.out
      first | refine wp_region_new (by kernel_rfl) (by kernel_rfl) ?_ | refine wp_region_lex ?_
      repeat (any_goals (first | go_big_quiet_step (((go_at_call 25; exact Calls.cl (hCz.out _)))) | (refine wpQuiet_step (fun K hK => ?_); go_simp; split <;> (rename_i hg; refine hK _ ?_; clear hK K; simp only [hg, decide_true, decide_false]))))
      all_goals (refine wpQuiet_nil ?_; intro x)
      have hbx := x.below
      replace hF := hF.below hbx
      replace hp := Rows.below hp hbx
      replace hm := Rows.below hm hbx
      replace hE := hE.below hbx
      replace htab := tab_below htab hbx
      replace hH := hH.below hbx
      replace hS := hS.below hbx
      clear hbx hCz cxz oc d1 d2 d3 d4 hNN hne
      have o := hF.own; simp only [World.size_alloc, World.size_drew, World.size_setCell, List.mem_cons, List.not_mem_nil, or_false, forall_eq_or_imp, forall_eq, At, and_true, Nat.zero_add, Nat.reduceAdd, List.set_cons_zero, List.set_cons_succ] at o
      go_wp2_with fail
      go_fit (iSealMake_any g c lk _ _ P M ti a _ hp hm hE (by omega)); rintro e w5 ⟨u, rfl, hO, hb5⟩
      have hq : sealsOf ti g c lk P M = mkN ti g c P P.length := if_pos HK.out
      rw [hq] at hO
      obtain ⟨us, uc, rfl⟩ := hO.sl
      have HM := Lib.hid (HK.out.sm (by omega) (Nat.le_refl _))
      rw [mkN_len] at hO ⊢
      clear hq
      replace hF := hF.below hb5
      replace hp := Rows.below hp hb5
      replace hm := Rows.below hm hb5
      replace hE := hE.below hb5
      replace htab := tab_below htab hb5
      replace hH := hH.below hb5
      replace hS := hS.below hb5
      clear o hb5
      have o := hF.own; simp only [World.size_alloc, World.size_drew, World.size_setCell, List.mem_cons, List.not_mem_nil, or_false, forall_eq_or_imp, forall_eq, At, and_true, Nat.zero_add, Nat.reduceAdd, List.set_cons_zero, List.set_cons_succ] at o
      go_wp2
      have HC := Lib.hid (⟨o.1.1, o.1.2.2.1, o.1.2.2.2.2.1, o.1.2.2.2.2.2.2.1, o.1.2.2.2.2.2.2.2.2.1⟩ : w5.cell? ⟨n5, 0, none⟩ = some (.int .i64 g) ∧ w5.cell? ⟨n5, 1, none⟩ = some (.int .i64 c) ∧ w5.cell? ⟨n5, 2, none⟩ = some (.slice (some ⟨b, off, none⟩) P.length c1) ∧ w5.cell? ⟨n5, 3, none⟩ = some (.int .i64 lk) ∧ w5.cell? ⟨n5, 4, none⟩ = some (.slice o2 M.length c2))
      have HO := Lib.hid hO.sls
      have HS := Lib.hid hS
      have HH := Lib.hid hH
      have HP := Lib.hid hp
      have HMv := Lib.hid hm
      have HE := Lib.hid hE
      have HT := Lib.hid htab
      have HF := Lib.hid hF.kp
      have hQ := Fb.start w5
      clear hO hS hH hp hm hE htab hF o
      go_loopw [9] (fun i wr => ∃ (k : Nat), k ≤ P.length ∧ i = .int .i64 k ∧ Hid (∀ s ∈ (mkN ti g c P P.length).take k, s ∈ L) ∧ Fb w5 wr []) (fun i _ => P.length - (intOf i).toNat)
      case atStart => exact ⟨0, Nat.zero_le _, rfl, fun s h => (by simp at h), hQ⟩
      case round =>
        clear hQ
        obtain ⟨k, hk, rfl, hA, hQ⟩ := hrel
        by_cases hlt : k < P.length
        · obtain ⟨b1, p1, rfl⟩ := HO.out.adr (by omega)
          obtain ⟨s, hsk⟩ : ∃ s, (mkN ti g c P P.length)[k]? = some s := ⟨_, mkN_at hlt⟩
          obtain ⟨a1, m1, k1, s0, s1, s2, s3, s4, g1⟩ := (HO.out.below hQ.kp).at hsk
          have hsm := Lib.hid (HM.out s (List.mem_of_getElem? hsk))
          have HK1 := Lib.hid hsk
          have HG := Lib.hid g1
          clear hsk g1
          have cI := iSealHas_any lv _ L s wr (HS.out.below hQ.kp) HG.out (by omega) HLs.out hsm.out (tab_below HT.out hQ.kp)
          by_cases hin : s ∈ L
          · rw [decide_eq_true hin] at cI
            have CI := Lib.hid cI
            have hA2 : Hid (∀ s ∈ (mkN ti g c P P.length).take (k + 1), s ∈ L) := all_snoc hA.out HK1.out hin
            clear hin cI
            go_wp2_with fail
            go_fit CI.out; rintro e wy ⟨rfl, hby⟩
            replace hQ := hQ.below hby
            clear hby s0 s1 s2 s3 s4
            go_wp2
            go_roundw
            case rel => exact ⟨k + 1, by omega, by go_num, hA2, hQ⟩
            case measure => simp [intOf]; omega
          · rw [decide_eq_false hin] at cI
            have CI := Lib.hid cI
            have hr1 : Hid (s.1 = N) := (lk9_at hA.out HK1.out hin).symm.trans hN1.out
            clear hin cI
            go_wp2_with fail
            go_fit CI.out; rintro e wy ⟨rfl, hby⟩
            replace s0 := (hby.cell (World.block_lt_of_cell? _ _ s0)).trans s0
            rw [hr1.out] at s0
            have dN : (N == N) = true := by simp
            replace hQ := hQ.below hby
            clear hby s1 s2 s3 s4 hr1
            go_wp2
            go_ret
            exact ⟨rfl, HF.out.trans (hQ.kp.mono HF.out.size)⟩
        · have hr1 : N = 0 := hN1.out.symm.trans (lk9_all (by have := hA.out; rwa [List.take_of_length_le (by rw [mkN_len]; omega)] at this))
          subst hr1
          have e0 := hQ.old HC.out.1
          have e1 := hQ.old HC.out.2.1
          have e2 := hQ.old HC.out.2.2.1
          have e3 := hQ.old HC.out.2.2.2.1
          have e4 := hQ.old HC.out.2.2.2.2
          have cI := iSealOk_any hv lv H L g c lk _ _ P M ti a wr (HH.out.below hQ.kp) (HS.out.below hQ.kp) (Rows.below HP.out hQ.kp) (Rows.below HMv.out hQ.kp) (HE.out.below hQ.kp) (tab_below HT.out hQ.kp) (by omega) (by omega) HLs.out
          rw [HN.out] at cI
          have CI := Lib.hid cI
          clear cI
          go_wp2_with fail
          go_fit CI.out; rintro e wy ⟨rfl, hby⟩
          replace hQ := hQ.below hby
          clear hby
          go_wp2
          go_ret
          exact ⟨rfl, HF.out.trans (hQ.kp.mono HF.out.size)⟩
  · have hN := lacks_bad (H := H) (L := L) k1
    rw [hN]
    clear k1
    go_wp2_with fail
    go_fit (sSealLacks_any hv lv H L g c lk _ _ P M ti _ hH hS hp hm (by omega)); rintro e w4 ⟨rfl, hb4⟩
    replace hF := hF.below hb4
    clear hb4
    rw [hN]
    clear hN
    go_wp2
    go_ret
    exact ⟨rfl, hF.kp⟩
end Go.Proofs.YtiocomefkckbfaaDoor
