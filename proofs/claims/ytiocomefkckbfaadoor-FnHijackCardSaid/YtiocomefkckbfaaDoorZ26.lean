/- The draw of a seal, and of seals. -/
import Derived.Test.YtiocomefkckbfaaDoorZ23
set_option linter.unusedSimpArgs false
set_option linter.unusedVariables false
namespace Go.Proofs.YtiocomefkckbfaaDoor
open Go.RowKit

/-- Numbers that lie between two blocks. -/
def Ib (w : World) (B U : Nat) (v : Value) (L : List Int) : Prop := Ints w v L ∧ ∀ g, v.ownBlock = some g → B ≤ g ∧ g < U
theorem Ib.kp {w w' : World} {B U r : Nat} {v : Value} {L : List Int} (h : Ib w B U v L) (K : Kp r w w') (hr : r < B) : Ib w' B U v L := ⟨Rows.kp h.1 K (B := B) (fun g hg => (h.2 g hg).1) hr, h.2⟩
theorem Ib.alloc {w : World} {B U : Nat} {v : Value} {L : List Int} (h : Ib w B U v L) (o : Obj) : Ib (w.alloc o) B U v L := ⟨Rows.alloc h.1 o, h.2⟩
theorem Ib.set {w : World} {B U : Nat} {v : Value} {L : List Int} (h : Ib w B U v L) {p : Addr} (hp : p.block < B ∨ U ≤ p.block) (u : Value) : Ib (w.setCell p u) B U v L := ⟨Rows.setO h.1 (fun e => by have := h.2 _ e; omega) u, h.2⟩
theorem Ib.set5 {w : World} {B U n : Nat} {v : Value} {L : List Int} (h : Ib w B U v L) (hn : n < B ∨ U ≤ n) (u0 u1 u2 u3 u4 : Value) : Ib (((((w.setCell ⟨n, 0, none⟩ u0).setCell ⟨n, 1, none⟩ u1).setCell ⟨n, 2, none⟩ u2).setCell ⟨n, 3, none⟩ u3).setCell ⟨n, 4, none⟩ u4) B U v L :=
  ((((h.set (p := ⟨n, 0, none⟩) hn u0).set (p := ⟨n, 1, none⟩) hn u1).set (p := ⟨n, 2, none⟩) hn u2).set (p := ⟨n, 3, none⟩) hn u3).set (p := ⟨n, 4, none⟩) hn u4
/-- One's own seals, all between two blocks. -/
def SOwnU (w : World) (B U : Nat) (v : Value) (L : List Sl) : Prop := ∃ ds, Own 28 w B v 5 encS ds ∧ SRel w B U v ds L ∧ ∀ g, v.ownBlock = some g → g < U
theorem SOwn.toU {w : World} {B : Nat} {v : Value} {L : List Sl} (h : SOwn w B v L) : SOwnU w B w.heap.size v L := by
  obtain ⟨ds, h1, h2⟩ := h; exact ⟨ds, h1, h2, h1.lt⟩
theorem SOwnU.kp {w w' : World} {B U r : Nat} {v : Value} {L : List Sl} (h : SOwnU w B U v L) (K : Kp r w w') (hr : r < B) : SOwnU w' B U v L := by
  obtain ⟨ds, h1, h2, h3⟩ := h; exact ⟨ds, h1.kp K hr, h2.kp K hr, h3⟩
theorem SOwnU.alloc {w : World} {B U : Nat} {v : Value} {L : List Sl} (h : SOwnU w B U v L) (o : Obj) : SOwnU (w.alloc o) B U v L := by
  obtain ⟨ds, h1, h2, h3⟩ := h; exact ⟨ds, h1.alloc o, h2.below ((Below.refl _ _).alloc (Nat.le_refl _) o), h3⟩
theorem SOwnU.set {w : World} {B U : Nat} {v : Value} {L : List Sl} (h : SOwnU w B U v L) {p : Addr} (hp : p.block < B ∨ U ≤ p.block) (u : Value) : SOwnU (w.setCell p u) B U v L := by
  obtain ⟨ds, h1, h2, h3⟩ := h
  refine ⟨ds, ownsRow_setCell_other h1 (fun e => by have := h3 _ e; have := h1.ge _ e; omega) u, ⟨h2.1, fun k s hk => ?_⟩, h3⟩
  obtain ⟨y, e1, e2, e3, e4⟩ := h2.2 k s hk
  exact ⟨y, e1, Rows.setO e2 (fun e => by have := e4 _ e; omega) u, e3, e4⟩
theorem SOwnU.set5 {w : World} {B U n : Nat} {v : Value} {L : List Sl} (h : SOwnU w B U v L) (hn : n < B ∨ U ≤ n) (u0 u1 u2 u3 u4 : Value) : SOwnU (((((w.setCell ⟨n, 0, none⟩ u0).setCell ⟨n, 1, none⟩ u1).setCell ⟨n, 2, none⟩ u2).setCell ⟨n, 3, none⟩ u3).setCell ⟨n, 4, none⟩ u4) B U v L :=
  ((((h.set (p := ⟨n, 0, none⟩) hn u0).set (p := ⟨n, 1, none⟩) hn u1).set (p := ⟨n, 2, none⟩) hn u2).set (p := ⟨n, 3, none⟩) hn u3).set (p := ⟨n, 4, none⟩) hn u4
theorem SOwnU.sls {w : World} {B U : Nat} {v : Value} {L : List Sl} (h : SOwnU w B U v L) : Sls w v L := by
  obtain ⟨ds, h1, h2, -⟩ := h
  exact ⟨ds, h1.rows (fun _ => rfl), h2.1, fun k s hk => by obtain ⟨u, a, b, -⟩ := h2.2 k s hk; exact ⟨u, a, b⟩⟩
/-- A seal of one's own row. -/
theorem SOwn.at {w : World} {B b off n cap : Nat} {L : List Sl} (h : SOwn w B (.slice (some ⟨b, off, none⟩) n cap) L) {k : Nat} {s : Sl} (hk : L[k]? = some s) :
    ∃ a m c, w.cell? ⟨b, off + k * 5, none⟩ = some (.int .i64 s.1) ∧ w.cell? ⟨b, off + k * 5 + 1, none⟩ = some (.int .i64 s.2.1) ∧ w.cell? ⟨b, off + k * 5 + 2, none⟩ = some (.int .i64 s.2.2.1) ∧ w.cell? ⟨b, off + k * 5 + 3, none⟩ = some (.int .i64 s.2.2.2.1) ∧ w.cell? ⟨b, off + k * 5 + 4, none⟩ = some (.slice a m c) ∧ Ib w B w.heap.size (.slice a m c) s.2.2.2.2 := by
  obtain ⟨ds, h1, h2⟩ := h
  have h1 := h1.rows (fun _ => rfl)
  obtain ⟨u, hu, hr, -, hb⟩ := h2.2 k s hk
  obtain ⟨ao, n', c', rfl, _⟩ := Ints.sl hr
  have c0 := Rows.get h1 hu (j := 0) rfl
  have c1 := Rows.get h1 hu (j := 1) rfl
  have c2 := Rows.get h1 hu (j := 2) rfl
  have c3 := Rows.get h1 hu (j := 3) rfl
  have c4 := Rows.get h1 hu (j := 4) rfl
  exact ⟨ao, n', c', c0, c1, c2, c3, c4, hr, hb⟩
theorem SmS.withTo {s : Sl} (h : SmS s) {t : Int} (h1 : 0 ≤ t) (h2 : t ≤ 100) : SmS (s.1, t, s.2.2.1, s.2.2.2.1, s.2.2.2.2) := ⟨h.1, ⟨by dsimp only; omega, by dsimp only; omega⟩, h.2.2⟩
set_option maxRecDepth 100000 in
set_option maxHeartbeats 8000000 in
theorem drawSealHas_any (v : Value) (w : World) (h : Given w v) :
    Calls Tryd.prog 11 #[v] w fun e w' => ∃ (lv pv : Value) (L : List Sl) (sb st sf sn : Int) (sp : List Int), e = .returned (.tuple #[lv, .agg #[.int .i64 sb, .int .i64 st, .int .i64 sf, .int .i64 sn, pv]]) ∧ Sls w' lv L ∧ Ints w' pv sp ∧ L.length ≤ 8 ∧ (∀ s ∈ L, SmS s) ∧ SmS (sb, st, sf, sn, sp) ∧ Below w.heap.size w w' := by
  have hF := (Fr.start (w.heap.size + 1) w).alloc' [.int .i64 0, .int .i64 0, .int .i64 0, .int .i64 0, .slice none 0 0] 28 (by omega)
  have hG := h.alloc (.cells #[.int .i64 0, .int .i64 0, .int .i64 0, .int .i64 0, .slice none 0 0] 28)
  obtain ⟨n2, hn2⟩ : ∃ n, w.heap.size = n := ⟨_, rfl⟩
  go_enter Tryd.func11, Tryd.ntmps11
  go_wp2_with fail
  refine (open_any v _ hG).mono ?_; rintro e w1 ⟨rfl, hR, hb1⟩
  simp only [World.size_alloc, hn2] at hR hF
  have hr1 := hR.lt
  replace hF := hF.below hb1
  clear hG hb1
  go_wp2_with fail
  refine (l92Sealed_any _ 0 _ hR (by omega)).mono ?_; rintro e w2 ⟨hv, lv, pv, mv, H, L, f, b, lk, ti, P, M, rfl, -, hS, hP, hM, hP4, -, -, hL8, hLs, ht0, ht6, hfb, ⟨k2, hk2, hR2⟩, hK2⟩
  replace hF := hF.call hK2
  obtain ⟨o1, c1, rfl, -⟩ := hP.it.1.ex
  obtain ⟨o2, c2, rfl, -⟩ := hM.it.1.ex
  obtain ⟨uo, uc, rfl⟩ := hS.sl
  have HLs := Lib.hid hLs
  clear hLs hK2 hR
  have hr2 := hR2.lt
  obtain ⟨n7, hn7⟩ : ∃ n, w2.heap.size = n := ⟨_, rfl⟩
  replace hF := hF.alloc [.int .i64 f, .int .i64 b, .slice o1 P.length c1, .int .i64 lk, .slice o2 M.length c2] 35 hr2
  replace hP := hP.below ((Below.refl _ _).alloc (Nat.le_refl _) (.cells #[.int .i64 f, .int .i64 b, .slice o1 P.length c1, .int .i64 lk, .slice o2 M.length c2] 35))
  replace hS := hS.alloc (.cells #[.int .i64 f, .int .i64 b, .slice o1 P.length c1, .int .i64 lk, .slice o2 M.length c2] 35)
  replace hR2 := hR2.alloc (.cells #[.int .i64 f, .int .i64 b, .slice o1 P.length c1, .int .i64 lk, .slice o2 M.length c2] 35)
  rw [hn7] at hF
  have o := hF.own; simp only [World.size_alloc, World.size_drew, World.size_setCell, List.mem_cons, List.not_mem_nil, or_false, forall_eq_or_imp, forall_eq, At, and_true, Nat.zero_add, Nat.reduceAdd, List.set_cons_zero, List.set_cons_succ] at o
  go_upto_region 3 with (fail)
  go_cut [26] (fun s26 wx => ∃ (bo : Bool) (k' : Nat), s26 = .bool bo ∧ Hid (bo = true → 0 < L.length) ∧ k' ≤ 501 ∧ SOwn wx (w1.heap.size + 1) (.slice uo L.length uc) L ∧ Rz wx (n2 + 1) [] (.slice o1 P.length c1) P ∧ Rd wx (n2 + 1) k' ∧ Fr (n2 + 1) w wx [(n7, [.int .i64 f, .int .i64 b, .slice o1 P.length c1, .int .i64 lk, .slice o2 M.length c2]), (n2, [.int .i64 0, .int .i64 0, .int .i64 0, .int .i64 0, .slice none 0 0])])
  case first =>
    by_cases h0 : L.length = 0
    · have d0 : decide (0 < L.length) = false := by simp; exact List.length_eq_zero_iff.1 h0
      clear h0
      go_wp2_with fail
      go_meet
      case rel => exact ⟨false, k2, rfl, fun q => (by cases q), by omega, hS, hP, hR2, hF⟩
    · have d0 : decide (0 < L.length) = true := decide_eq_true (by omega)
      have hp0 : Hid (0 < L.length) := (by omega : 0 < L.length)
      clear h0
      go_wp2_with fail
      refine (pick_any _ _ _ _ hR2 (by omega) (by omega) (by omega)).mono ?_; rintro e wy ⟨ty, rfl, uy, ly, hRy, hKy⟩
      replace hF := hF.call hKy
      replace hP := hP.kp hKy
      replace hS := hS.kp hKy (by omega)
      clear hKy hR2 o
      by_cases hz : ty = 0
      · subst hz
        go_wp2_with fail
        go_meet
        case rel => exact ⟨false, k2 + 1, rfl, fun q => (by cases q), by omega, hS, hP, hRy, hF⟩
      · have dz : decide (0 < ty) = true := decide_eq_true (by omega)
        clear hz
        go_wp2_with fail
        go_meet
        case rel => exact ⟨true, k2 + 1, rfl, fun _ => hp0.out, by omega, hS, hP, hRy, hF⟩
  case rest =>
    clear hF hP hS hR2 o
    obtain ⟨bo, k', rfl, hlen, hk', hS, hP, hR, hF⟩ := hcut
    cases bo with
    | true =>
      have hl0 : Hid (0 < L.length) := hlen.out rfl
      clear hlen hP
      obtain ⟨b1, p1, rfl⟩ := hS.sls.adr hl0.out
      have o := hF.own; simp only [World.size_alloc, World.size_drew, World.size_setCell, List.mem_cons, List.not_mem_nil, or_false, forall_eq_or_imp, forall_eq, At, and_true, Nat.zero_add, Nat.reduceAdd, List.set_cons_zero, List.set_cons_succ] at o
      go_wp2_with fail
      refine (pick_any _ _ _ _ hR (by omega) (by have := hl0.out; omega) (by omega)).mono ?_; rintro e wy ⟨ty, rfl, uy, ly, hRy, hKy⟩
      obtain ⟨i, rfl⟩ := Int.eq_ofNat_of_zero_le uy
      obtain ⟨s, hsk⟩ := get_lt (L := L) (k := i) (by omega)
      replace hF := hF.call hKy
      replace hS := hS.kp hKy (by omega)
      have hr9 := hRy.lt
      obtain ⟨a, m, c, q0, q1, q2, q3, q4, hU⟩ := hS.at hsk
      have hsm := Lib.hid (HLs.out s (List.mem_of_getElem? hsk))
      obtain ⟨sb, st, sf, sn, sp⟩ := s
      dsimp only at q0 q1 q2 q3 q4 hU
      have h79 : n7 < wy.heap.size := (hF.own _ (List.mem_cons_self ..)).2.2.2
      replace hS := hS.toU
      clear hsk hKy hR
      obtain ⟨n9, hn9⟩ : ∃ n, wy.heap.size = n := ⟨_, rfl⟩
      replace hF := hF.alloc [.int .i64 sb, .int .i64 st, .int .i64 sf, .int .i64 sn, .slice a m c] 28 hr9
      replace hS := hS.alloc (.cells #[.int .i64 sb, .int .i64 st, .int .i64 sf, .int .i64 sn, .slice a m c] 28)
      replace hU := hU.alloc (.cells #[.int .i64 sb, .int .i64 st, .int .i64 sf, .int .i64 sn, .slice a m c] 28)
      replace hRy := hRy.alloc (.cells #[.int .i64 sb, .int .i64 st, .int .i64 sf, .int .i64 sn, .slice a m c] 28)
      have h29 : n2 < n9 := by omega
      rw [hn9] at hF hU hS h79
      clear o
      have o := hF.own; simp only [World.size_alloc, World.size_drew, World.size_setCell, List.mem_cons, List.not_mem_nil, or_false, forall_eq_or_imp, forall_eq, At, and_true, Nat.zero_add, Nat.reduceAdd, List.set_cons_zero, List.set_cons_succ] at o
      go_wp2_with fail
      refine (pick_any _ _ _ _ hRy (by omega) (by omega) (by omega)).mono ?_; rintro e wz ⟨tz, rfl, uz, lz, hRz, hKz⟩
      replace hF := hF.call hKz
      replace hS := hS.kp hKz (by omega)
      replace hU := hU.kp hKz (by omega)
      clear hKz hRy o q0 q1 q2 q3 q4 hn9
      have o := hF.own; simp only [World.size_alloc, World.size_drew, World.size_setCell, List.mem_cons, List.not_mem_nil, or_false, forall_eq_or_imp, forall_eq, At, and_true, Nat.zero_add, Nat.reduceAdd, List.set_cons_zero, List.set_cons_succ] at o
      by_cases hz : tz = 0
      · subst hz
        go_wp2_with fail
        refine (pick_any _ _ _ _ hRz (by omega) (by omega) (by omega)).mono ?_; rintro e wv ⟨tv, rfl, uv, lv, -, hKv⟩
        obtain ⟨sv, hsv⟩ : ∃ z, 1 + tv = z := ⟨_, rfl⟩
        replace hF := hF.call hKv
        replace hS := hS.kp hKv (by omega)
        replace hU := hU.kp hKv (by omega)
        clear hKv hRz o
        have o := hF.own; simp only [World.size_alloc, World.size_drew, World.size_setCell, List.mem_cons, List.not_mem_nil, or_false, forall_eq_or_imp, forall_eq, At, and_true, Nat.zero_add, Nat.reduceAdd, List.set_cons_zero, List.set_cons_succ] at o
        go_wp2_with fail
        replace hF := hF.set 1 (.int .i64 sv) (by simp) (by simp; omega)
        replace hS := hS.set (p := ⟨n9, 1, none⟩) (Or.inr (Nat.le_refl _)) (.int .i64 sv)
        replace hU := hU.set (p := ⟨n9, 1, none⟩) (Or.inr (Nat.le_refl _)) (.int .i64 sv)
        clear o
        have o := hF.own; simp only [World.size_alloc, World.size_drew, World.size_setCell, List.mem_cons, List.not_mem_nil, or_false, forall_eq_or_imp, forall_eq, At, and_true, Nat.zero_add, Nat.reduceAdd, List.set_cons_zero, List.set_cons_succ] at o
        go_region
        go_wp2_with fail
        obtain ⟨wq, hwq, e1, -⟩ := put5 (hF.sub (L' := [(n2, [.int .i64 0, .int .i64 0, .int .i64 0, .int .i64 0, .slice none 0 0]), (n9, [.int .i64 sb, .int .i64 sv, .int .i64 sf, .int .i64 sn, .slice a m c])]) (by intro p hp; simp only [List.mem_cons, List.not_mem_nil, or_false] at hp ⊢; rcases hp with rfl | rfl <;> simp)) (by simp; omega) (.int .i64 sb) (.int .i64 sv) (.int .i64 sf) (.int .i64 sn) (.slice a m c)
        have hS5 := SOwnU.set5 hS (n := n2) (Or.inl (by omega)) (.int .i64 sb) (.int .i64 sv) (.int .i64 sf) (.int .i64 sn) (.slice a m c)
        have hU5 := Ib.set5 hU (n := n2) (Or.inl (by omega)) (.int .i64 sb) (.int .i64 sv) (.int .i64 sf) (.int .i64 sn) (.slice a m c)
        rw [← hwq] at hS5 hU5
        rw [← hwq]
        clear hwq o hF hU hS
        have hF := e1
        have o := hF.own; simp only [World.size_alloc, World.size_drew, World.size_setCell, List.mem_cons, List.not_mem_nil, or_false, forall_eq_or_imp, forall_eq, At, and_true, Nat.zero_add, Nat.reduceAdd, List.set_cons_zero, List.set_cons_succ] at o
        refine bodyPost_ret (v := .tuple #[.slice (some ⟨b1, p1, none⟩) L.length uc, .agg #[.int .i64 sb, .int .i64 sv, .int .i64 sf, .int .i64 sn, .slice a m c]]) ?_ rfl ?_
        · simp [results, Tryd.results11, go_sem, o]
        · exact ⟨_, _, L, sb, sv, sf, sn, sp, rfl, hS5.sls.below (Below.refl _ _).drew, Rows.drew hU5.1, hL8, HLs.out, (hsm.out.withTo (t := sv) (by omega) (by omega)), (e1.kp.below (by omega) (Nat.le_refl _)).drew⟩
      · have dz : (tz == 0) = false := by simp [hz]
        go_wp2_with fail
        go_region
        go_wp2_with fail
        obtain ⟨wq, hwq, e1, -⟩ := put5 (hF.sub (L' := [(n2, [.int .i64 0, .int .i64 0, .int .i64 0, .int .i64 0, .slice none 0 0]), (n9, [.int .i64 sb, .int .i64 st, .int .i64 sf, .int .i64 sn, .slice a m c])]) (by intro p hp; simp only [List.mem_cons, List.not_mem_nil, or_false] at hp ⊢; rcases hp with rfl | rfl <;> simp)) (by simp; omega) (.int .i64 sb) (.int .i64 st) (.int .i64 sf) (.int .i64 sn) (.slice a m c)
        have hS5 := SOwnU.set5 hS (n := n2) (Or.inl (by omega)) (.int .i64 sb) (.int .i64 st) (.int .i64 sf) (.int .i64 sn) (.slice a m c)
        have hU5 := Ib.set5 hU (n := n2) (Or.inl (by omega)) (.int .i64 sb) (.int .i64 st) (.int .i64 sf) (.int .i64 sn) (.slice a m c)
        rw [← hwq] at hS5 hU5
        rw [← hwq]
        clear hwq o hF hU hS
        have hF := e1
        have o := hF.own; simp only [World.size_alloc, World.size_drew, World.size_setCell, List.mem_cons, List.not_mem_nil, or_false, forall_eq_or_imp, forall_eq, At, and_true, Nat.zero_add, Nat.reduceAdd, List.set_cons_zero, List.set_cons_succ] at o
        refine bodyPost_ret (v := .tuple #[.slice (some ⟨b1, p1, none⟩) L.length uc, .agg #[.int .i64 sb, .int .i64 st, .int .i64 sf, .int .i64 sn, .slice a m c]]) ?_ rfl ?_
        · simp [results, Tryd.results11, go_sem, o]
        · exact ⟨_, _, L, sb, st, sf, sn, sp, rfl, hS5.sls.below (Below.refl _ _).drew, Rows.drew hU5.1, hL8, HLs.out, hsm.out, (e1.kp.below (by omega) (Nat.le_refl _)).drew⟩
    | false =>
      clear hlen
      replace hP := hP.with (n := n2) (by omega)
      have o := hF.own; simp only [World.size_alloc, World.size_drew, World.size_setCell, List.mem_cons, List.not_mem_nil, or_false, forall_eq_or_imp, forall_eq, At, and_true, Nat.zero_add, Nat.reduceAdd, List.set_cons_zero, List.set_cons_succ] at o
      go_wp2_with fail
      go_region
      go_wp2_with fail
      obtain ⟨wq, hwq, e1, e2⟩ := put5 (hF.sub (L' := [(n2, [.int .i64 0, .int .i64 0, .int .i64 0, .int .i64 0, .slice none 0 0])]) (by intro p hp; simp only [List.mem_cons, List.not_mem_nil, or_false] at hp ⊢; rcases hp with rfl <;> simp)) (by simp) (.int .i64 1) (.int .i64 ti) (.int .i64 f) (.int .i64 b) (.slice o1 P.length c1)
      have hS5 := SOwn.set5 hS (n := n2) (by omega) (.int .i64 1) (.int .i64 ti) (.int .i64 f) (.int .i64 b) (.slice o1 P.length c1)
      rw [← hwq] at hS5
      rw [← hwq]
      have hP5 := e2 _ _ _ (by simp) hP
      clear hwq o hF hS hP
      have hF := e1
      have o := hF.own; simp only [World.size_alloc, World.size_drew, World.size_setCell, List.mem_cons, List.not_mem_nil, or_false, forall_eq_or_imp, forall_eq, At, and_true, Nat.zero_add, Nat.reduceAdd, List.set_cons_zero, List.set_cons_succ] at o
      refine bodyPost_ret (v := .tuple #[.slice uo L.length uc, .agg #[.int .i64 1, .int .i64 ti, .int .i64 f, .int .i64 b, .slice o1 P.length c1]]) ?_ rfl ?_
      · simp [results, Tryd.results11, go_sem, o]
      · exact ⟨_, _, L, 1, ti, f, b, P, rfl, hS5.sls.below (Below.refl _ _).drew, Rows.drew hP5.it.1, hL8, HLs.out, ⟨by simp, by dsimp only; omega, by have := hfb; unfold SmR at this; dsimp only; omega, by have := hfb; unfold SmR at this; dsimp only; omega, by have := hP4.1; dsimp only; omega, fun x hx => by have := hP4.2 x hx; unfold Bts at this; omega⟩, (e1.kp.below (by omega) (Nat.le_refl _)).drew⟩
end Go.Proofs.YtiocomefkckbfaaDoor
