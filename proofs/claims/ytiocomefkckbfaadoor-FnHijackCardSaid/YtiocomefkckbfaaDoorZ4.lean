/- Two rows of numbers are the same. Ranges and entries compared; a slice compared with nil. Rows of seals; two lists of seals are the same. -/
import Derived.Test.YtiocomefkckbfaaDoorZ3
import Derived.Laws.StructEq
import Derived.Lib.SliceRun
set_option linter.unusedSimpArgs false
set_option linter.unusedVariables false
namespace Go.Proofs.YtiocomefkckbfaaDoor
open Go.RowKit

theorem Ints.sl {w : World} {v : Value} {L : List Int} (h : Ints w v L) : ∃ ao n cap, v = .slice ao n cap ∧ Hid (L.length = n) ∧ n ≤ cap ∧ cap ≤ 9223372036854775807 := by
  obtain ⟨ao, cap, e, h1, h2, _⟩ := h.ex
  exact ⟨ao, _, cap, e, rfl, h1, h2⟩
theorem ints_nil (w : World) (ao : Option Addr) (cap : Nat) (hc : cap ≤ 9223372036854775807) : Ints w (.slice ao 0 cap) [] := Rows.nil w ao cap hc _ _
theorem take_ne {L K : List Int} {k : Nat} {p q : Int} (h1 : L[k]? = some p) (h2 : K[k]? = some q) (h : p ≠ q) : decide (L = K) = false := by
  rw [decide_eq_false_iff_not]; rintro rfl; rw [h1] at h2; injection h2 with h2; exact h h2
theorem take_eq {L K : List Int} {k : Nat} {p q : Int} (h0 : L.take k = K.take k) (h1 : L[k]? = some p) (h2 : K[k]? = some q) (h : p = q) : L.take (k + 1) = K.take (k + 1) := by
  rw [take_succ' h1, take_succ' h2, h0, h]
set_option maxHeartbeats 1000000 in
theorem lyInts_any (v1 v2 : Value) (L K : List Int) (w : World) (h1 : Ints w v1 L) (h2 : Ints w v2 K) :
    Calls Tryd.prog 14 #[v1, v2] w fun e w' => e = .returned (.bool (decide (L = K))) ∧ Below w.heap.size w w' := by
  have hF := Fb.start w
  obtain ⟨ao, n, cap, rfl, hn, hnc, hcap⟩ := h1.sl
  obtain ⟨bo, m, cap2, rfl, hm, hmc, hcap2⟩ := h2.sl
  by_cases hnm : n = m
  · subst hnm
    have d1 : ((n : Int) != (n : Int)) = false := by simp
    have HL := Lib.hid h1
    have HK := Lib.hid h2
    clear h1 h2
    go_enter Tryd.func14, Tryd.ntmps14
    go_wp2
    go_loopw [5] (fun i wr => ∃ k : Nat, k ≤ n ∧ i = .int .i64 k ∧ Hid (L.take k = K.take k) ∧ Fb w wr []) (fun i _ => n - (intOf i).toNat)
    case atStart => exact ⟨0, Nat.zero_le _, rfl, by show _ = _; simp, hF⟩
    case round =>
      clear hF
      obtain ⟨k, hk, rfl, ht, hF⟩ := hrel
      by_cases hlt : k < n
      · obtain ⟨b1, o1, rfl⟩ := HL.out.some (by omega)
        obtain ⟨b2, o2, rfl⟩ := HK.out.some (by omega)
        obtain ⟨p, hp⟩ := get_of hn.out hlt
        obtain ⟨q, hq⟩ := get_of hm.out hlt
        have HP := Lib.hid hp
        have HQ := Lib.hid hq
        clear hp hq
        have f1 := fun z : Cl wr.heap.size wr => Cl.old hF z (HL.out.get HP.out)
        have f2 := fun z : Cl wr.heap.size wr => Cl.old hF z (HK.out.get HQ.out)
        by_cases hpq : p = q
        · have d2 : (p != q) = false := by simp [hpq]
          have ht2 := Lib.hid (take_eq ht.out HP.out HQ.out hpq)
          clear hpq
          go_wp2
          first | refine wp_region_new (by kernel_rfl) (by kernel_rfl) ?_ | refine wp_region_lex ?_
          repeat (any_goals (first | go_big_quiet_step ((fail)) | (refine wpQuiet_step (fun K hK => ?_); go_simp; split <;> (rename_i hg; refine hK _ ?_; clear hK K; simp only [hg, decide_true, decide_false]))))
          all_goals (refine wpQuiet_nil ?_; intro x)
          go_wp2
          go_roundw
          case rel => exact ⟨k + 1, by omega, by go_num, ht2, hF.cl x⟩
          case measure => simp [intOf]; omega
        · have d2 : (p != q) = true := by simp [hpq]
          have ht2 := Lib.hid (take_ne HP.out HQ.out hpq)
          clear hpq
          go_wp2
          first | refine wp_region_new (by kernel_rfl) (by kernel_rfl) ?_ | refine wp_region_lex ?_
          repeat (any_goals (first | go_big_quiet_step ((fail)) | (refine wpQuiet_step (fun K hK => ?_); go_simp; split <;> (rename_i hg; refine hK _ ?_; clear hK K; simp only [hg, decide_true, decide_false]))))
          all_goals (refine wpQuiet_nil ?_; intro x)
          go_wp2
          go_ret
          exact ⟨by rw [ht2.out]; rfl, (hF.cl x).kp⟩
      · have hd : Hid (decide (L = K) = true) := by
          have := ht.out
          rw [List.take_of_length_le (by rw [hn.out]; omega), List.take_of_length_le (by rw [hm.out]; omega)] at this
          exact decide_eq_true this
        go_wp2
        go_ret
        exact ⟨by rw [hd.out]; rfl, hF.kp⟩
  · have d1 : ((n : Int) != (m : Int)) = true := by simp; omega
    have hd : Hid (decide (L = K) = false) := decide_eq_false (fun e => hnm (by rw [← hn.out, ← hm.out, e]))
    clear h1 h2 hnm
    go_enter Tryd.func14, Tryd.ntmps14
    go_wp2
    go_ret
    exact ⟨by rw [hd.out]; rfl, hF.kp⟩
end Go.Proofs.YtiocomefkckbfaaDoor
set_option linter.unusedSimpArgs false
set_option linter.unusedVariables false
namespace Go.Proofs.YtiocomefkckbfaaDoor
open Go.RowKit

theorem rng_fields : (Tryd.prog.fieldsOf 25).toList = [⟨ "First", 3, 0, false, "", "", 0⟩, ⟨ "Bits", 3, 1, false, "", "", 8⟩] := by kernel_rfl
theorem rng_eq (f b g c : Int) (d : Nat) (w : World) : (Op.equalIn (d + 2) 25 (.agg #[.int .i64 f, .int .i64 b]) (.agg #[.int .i64 g, .int .i64 c])).run Tryd.prog w = .ok (f == g && b == c) w := by
  rw [run_equalIn_agg w (d + 1) 25 _ _ (by kernel_rfl) (by kernel_rfl), rng_fields]
  cases h1 : (f == g) <;> cases h2 : (b == c) <;> simp [Op.eqFields, go_sem, h1, h2]
theorem rng_neq (f b g c : Int) (w : World) : (binOp .neq 25 (.agg #[.int .i64 f, .int .i64 b]) (.agg #[.int .i64 g, .int .i64 c])).run Tryd.prog w = .ok (.bool (!(f == g && b == c))) w := by
  rw [run_neq_struct, rng_eq f b g c 9998]; rfl
theorem rng_eql (f b g c : Int) (w : World) : (binOp .eql 25 (.agg #[.int .i64 f, .int .i64 b]) (.agg #[.int .i64 g, .int .i64 c])).run Tryd.prog w = .ok (.bool (f == g && b == c)) w := by
  rw [run_eql_struct, rng_eq f b g c 9998]; rfl
end Go.Proofs.YtiocomefkckbfaaDoor
set_option linter.unusedSimpArgs false
set_option linter.unusedVariables false
namespace Go.Proofs.YtiocomefkckbfaaDoor
open Go.RowKit

abbrev Sl := Int × Int × Int × Int × List Int
abbrev SlV := Int × Int × Int × Int × Value
def encS (d : SlV) : List Value := [.int .i64 d.1, .int .i64 d.2.1, .int .i64 d.2.2.1, .int .i64 d.2.2.2.1, d.2.2.2.2]
/-- A slice of seals that reads as the list L. -/
structure Sls (w : World) (v : Value) (L : List Sl) : Prop where
  ex : ∃ ds : List SlV, Rows w v 5 encS ds ∧ ds.length = L.length ∧ ∀ (k : Nat) (s : Sl), L[k]? = some s → ∃ u : Value, ds[k]? = some (s.1, s.2.1, s.2.2.1, s.2.2.2.1, u) ∧ Ints w u s.2.2.2.2
theorem Sls.below {w w' : World} {v : Value} {L : List Sl} (h : Sls w v L) (hb : Below w.heap.size w w') : Sls w' v L := by
  obtain ⟨ds, h1, h2, h3⟩ := h.ex
  refine ⟨ds, h1.below hb, h2, fun k s hk => ?_⟩
  obtain ⟨u, hu, hr⟩ := h3 k s hk
  exact ⟨u, hu, Rows.below hr hb⟩
theorem Sls.sl {w : World} {v : Value} {L : List Sl} (h : Sls w v L) : ∃ ao n cap, v = .slice ao n cap ∧ Hid (L.length = n) ∧ n ≤ cap ∧ cap ≤ 9223372036854775807 := by
  obtain ⟨ds, h1, h2, h3⟩ := h.ex
  obtain ⟨ao, cap, e, k1, k2, _⟩ := h1.ex
  exact ⟨ao, _, cap, e, h2.symm, k1, k2⟩
theorem Sls.adr {w : World} {a : Option Addr} {n c : Nat} {L : List Sl} (h : Sls w (.slice a n c) L) (hn : 0 < n) : ∃ b off, a = some ⟨b, off, none⟩ := by
  obtain ⟨ds, h1, h2, h3⟩ := h.ex
  obtain ⟨m, cap, hm, _, _, ⟨h0, ao, e⟩ | ⟨_, b, off, e, _⟩⟩ := Rows.cases h1
  · injection e with e1 e2 e3; omega
  · injection e with e1 e2 e3; exact ⟨b, off, e1⟩
/-- A seal of it: its cells, and its path. -/
theorem Sls.at {w : World} {b off n cap : Nat} {L : List Sl} (h : Sls w (.slice (some ⟨b, off, none⟩) n cap) L) {k : Nat} {s : Sl} (hk : L[k]? = some s) :
    ∃ a m c, w.cell? ⟨b, off + k * 5, none⟩ = some (.int .i64 s.1) ∧ w.cell? ⟨b, off + k * 5 + 1, none⟩ = some (.int .i64 s.2.1) ∧ w.cell? ⟨b, off + k * 5 + 2, none⟩ = some (.int .i64 s.2.2.1) ∧ w.cell? ⟨b, off + k * 5 + 3, none⟩ = some (.int .i64 s.2.2.2.1) ∧ w.cell? ⟨b, off + k * 5 + 4, none⟩ = some (.slice a m c) ∧ Ints w (.slice a m c) s.2.2.2.2 := by
  obtain ⟨ds, h1, h2, h3⟩ := h.ex
  obtain ⟨u, hu, hr⟩ := h3 k s hk
  obtain ⟨ao, n', c', rfl, _⟩ := Ints.sl hr
  have c0 := Rows.get h1 hu (j := 0) rfl
  have c1 := Rows.get h1 hu (j := 1) rfl
  have c2 := Rows.get h1 hu (j := 2) rfl
  have c3 := Rows.get h1 hu (j := 3) rfl
  have c4 := Rows.get h1 hu (j := 4) rfl
  exact ⟨ao, n', c', c0, c1, c2, c3, c4, hr⟩
theorem tk_ne {α : Type} [DecidableEq α] {L K : List α} {k : Nat} {p q : α} (h1 : L[k]? = some p) (h2 : K[k]? = some q) (h : p ≠ q) : decide (L = K) = false := by
  rw [decide_eq_false_iff_not]; rintro rfl; rw [h1] at h2; injection h2 with h2; exact h h2
theorem tk_eq {α : Type} {L K : List α} {k : Nat} {p q : α} (h0 : L.take k = K.take k) (h1 : L[k]? = some p) (h2 : K[k]? = some q) (h : p = q) : L.take (k + 1) = K.take (k + 1) := by
  rw [take_succ' h1, take_succ' h2, h0, h]
set_option maxHeartbeats 4000000 in
theorem lySeals_any (v1 v2 : Value) (L K : List Sl) (w : World) (h1 : Sls w v1 L) (h2 : Sls w v2 K) :
    Calls Tryd.prog 17 #[v1, v2] w fun e w' => e = .returned (.bool (decide (L = K))) ∧ Below w.heap.size w w' := by
  have hF := Fb.start w
  obtain ⟨ao, n, cap, rfl, hn, hnc, hcap⟩ := h1.sl
  obtain ⟨bo, m, cap2, rfl, hm, hmc, hcap2⟩ := h2.sl
  by_cases hnm : n = m
  · subst hnm
    have d1 : ((n : Int) != (n : Int)) = false := by simp
    have HL := Lib.hid h1
    have HK := Lib.hid h2
    clear h1 h2
    go_enter Tryd.func17, Tryd.ntmps17
    go_wp2
    go_loopw [5] (fun i wr => ∃ k : Nat, k ≤ n ∧ i = .int .i64 k ∧ Hid (L.take k = K.take k) ∧ Fb w wr []) (fun i _ => n - (intOf i).toNat)
    case atStart => exact ⟨0, Nat.zero_le _, rfl, by show _ = _; simp, hF⟩
    case round =>
      clear hF
      obtain ⟨k, hk, rfl, ht, hF⟩ := hrel
      by_cases hlt : k < n
      · obtain ⟨b1, o1, rfl⟩ := HL.out.adr (by omega)
        obtain ⟨b2, o2, rfl⟩ := HK.out.adr (by omega)
        obtain ⟨p, hp⟩ := get_of hn.out hlt
        obtain ⟨q, hq⟩ := get_of hm.out hlt
        obtain ⟨a1, m1, k1, e0, e1, e2, e3, e4, g1⟩ := HL.out.at hp
        obtain ⟨a2, m2, k2, f0, f1, f2, f3, f4, g2⟩ := HK.out.at hq
        obtain ⟨pb, pt, pf, pn, pp⟩ := p
        obtain ⟨qb, qt, qf, qn, qp⟩ := q
        dsimp only at e0 e1 e2 e3 e4 g1 f0 f1 f2 f3 f4 g2
        have HP := Lib.hid hp
        have HQ := Lib.hid hq
        clear hp hq
        have HG := Lib.hid (fun z : Cl wr.heap.size wr => (show Ints z.W _ pp ∧ Ints z.W _ qp from ⟨Rows.below g1 (hF.cl z).kp, Rows.below g2 (hF.cl z).kp⟩))
        clear g1 g2
        have x0 := fun z : Cl wr.heap.size wr => Cl.old hF z e0
        have x1 := fun z : Cl wr.heap.size wr => Cl.old hF z e1
        have x2 := fun z : Cl wr.heap.size wr => Cl.old hF z e2
        have x3 := fun z : Cl wr.heap.size wr => Cl.old hF z e3
        have x4 := fun z : Cl wr.heap.size wr => Cl.old hF z e4
        have y0 := fun z : Cl wr.heap.size wr => Cl.old hF z f0
        have y1 := fun z : Cl wr.heap.size wr => Cl.old hF z f1
        have y2 := fun z : Cl wr.heap.size wr => Cl.old hF z f2
        have y3 := fun z : Cl wr.heap.size wr => Cl.old hF z f3
        have y4 := fun z : Cl wr.heap.size wr => Cl.old hF z f4
        clear e0 e1 e2 e3 e4 f0 f1 f2 f3 f4
        by_cases i1 : pb = qb
        · have j1 : (pb != qb) = false := by simp [i1]
          by_cases i2 : pt = qt
          · have j2 : (pt != qt) = false := by simp [i2]
            by_cases i3 : pf = qf ∧ pn = qn
            · have j3 : ∀ w, (binOp .neq 25 (.agg #[.int .i64 pf, .int .i64 pn]) (.agg #[.int .i64 qf, .int .i64 qn])).run Tryd.prog w = .ok (.bool false) w := fun w => by rw [rng_neq]; simp [i3]
              by_cases i4 : pp = qp
              · have j4 : decide (pp = qp) = true := by simp [i4]
                have ht2 := Lib.hid (tk_eq ht.out HP.out HQ.out (by simp [i1, i2, i3, i4]))
                clear i1 i2 i3 i4
                go_wp2
                first | refine wp_region_new (by kernel_rfl) (by kernel_rfl) ?_ | refine wp_region_lex ?_
                repeat (any_goals (first | go_big_quiet_step (((go_at_call 14; exact Calls.cl (lyInts_any _ _ _ _ _ (HG.out _).1 (HG.out _).2)))) | (refine wpQuiet_step (fun K hK => ?_); go_simp; split <;> (rename_i hg; refine hK _ ?_; clear hK K; simp only [hg, decide_true, decide_false]))))
                all_goals (refine wpQuiet_nil ?_; intro x)
                go_wp2
                go_roundw
                case rel => exact ⟨k + 1, by omega, by go_num, ht2, hF.cl x⟩
                case measure => simp [intOf]; omega
              · have j4 : decide (pp = qp) = false := by simp [i4]
                have ht2 := Lib.hid (tk_ne HP.out HQ.out (by simp only [ne_eq, Prod.mk.injEq]; simp [i4]))
                go_wp2
                first | refine wp_region_new (by kernel_rfl) (by kernel_rfl) ?_ | refine wp_region_lex ?_
                repeat (any_goals (first | go_big_quiet_step (((go_at_call 14; exact Calls.cl (lyInts_any _ _ _ _ _ (HG.out _).1 (HG.out _).2)))) | (refine wpQuiet_step (fun K hK => ?_); go_simp; split <;> (rename_i hg; refine hK _ ?_; clear hK K; simp only [hg, decide_true, decide_false]))))
                all_goals (refine wpQuiet_nil ?_; intro x)
                go_wp2
                go_ret
                exact ⟨by rw [ht2.out]; rfl, (hF.cl x).kp⟩
            · have j3 : ∀ w, (binOp .neq 25 (.agg #[.int .i64 pf, .int .i64 pn]) (.agg #[.int .i64 qf, .int .i64 qn])).run Tryd.prog w = .ok (.bool true) w := fun w => by
                rw [rng_neq]
                have : (pf == qf && pn == qn) = false := by
                  rw [Bool.eq_false_iff]; intro g; simp at g; exact i3 g
                rw [this]; rfl
              have i5 : ¬ (pf = qf ∧ pn = qn ∧ pp = qp) := fun g => i3 ⟨g.1, g.2.1⟩
              have ht2 := Lib.hid (tk_ne HP.out HQ.out (by simp only [ne_eq, Prod.mk.injEq]; simp [i5]))
              go_wp2
              first | refine wp_region_new (by kernel_rfl) (by kernel_rfl) ?_ | refine wp_region_lex ?_
              repeat (any_goals (first | go_big_quiet_step ((fail)) | (refine wpQuiet_step (fun K hK => ?_); go_simp; split <;> (rename_i hg; refine hK _ ?_; clear hK K; simp only [hg, decide_true, decide_false]))))
              all_goals (refine wpQuiet_nil ?_; intro x)
              go_wp2
              go_ret
              exact ⟨by rw [ht2.out]; rfl, (hF.cl x).kp⟩
          · have j2 : (pt != qt) = true := by simp [i2]
            have ht2 := Lib.hid (tk_ne HP.out HQ.out (by simp only [ne_eq, Prod.mk.injEq]; simp [i2]))
            go_wp2
            first | refine wp_region_new (by kernel_rfl) (by kernel_rfl) ?_ | refine wp_region_lex ?_
            repeat (any_goals (first | go_big_quiet_step ((fail)) | (refine wpQuiet_step (fun K hK => ?_); go_simp; split <;> (rename_i hg; refine hK _ ?_; clear hK K; simp only [hg, decide_true, decide_false]))))
            all_goals (refine wpQuiet_nil ?_; intro x)
            go_wp2
            go_ret
            exact ⟨by rw [ht2.out]; rfl, (hF.cl x).kp⟩
        · have j1 : (pb != qb) = true := by simp [i1]
          have ht2 := Lib.hid (tk_ne HP.out HQ.out (by simp only [ne_eq, Prod.mk.injEq]; simp [i1]))
          go_wp2
          first | refine wp_region_new (by kernel_rfl) (by kernel_rfl) ?_ | refine wp_region_lex ?_
          repeat (any_goals (first | go_big_quiet_step ((fail)) | (refine wpQuiet_step (fun K hK => ?_); go_simp; split <;> (rename_i hg; refine hK _ ?_; clear hK K; simp only [hg, decide_true, decide_false]))))
          all_goals (refine wpQuiet_nil ?_; intro x)
          go_wp2
          go_ret
          exact ⟨by rw [ht2.out]; rfl, (hF.cl x).kp⟩
      · have hd : Hid (decide (L = K) = true) := by
          have := ht.out
          rw [List.take_of_length_le (by rw [hn.out]; omega), List.take_of_length_le (by rw [hm.out]; omega)] at this
          exact decide_eq_true this
        go_wp2
        go_ret
        exact ⟨by rw [hd.out]; rfl, hF.kp⟩
  · have d1 : ((n : Int) != (m : Int)) = true := by simp; omega
    have hd : Hid (decide (L = K) = false) := decide_eq_false (fun e => hnm (by rw [← hn.out, ← hm.out, e]))
    clear h1 h2 hnm
    go_enter Tryd.func17, Tryd.ntmps17
    go_wp2
    go_ret
    exact ⟨by rw [hd.out]; rfl, hF.kp⟩
end Go.Proofs.YtiocomefkckbfaaDoor
