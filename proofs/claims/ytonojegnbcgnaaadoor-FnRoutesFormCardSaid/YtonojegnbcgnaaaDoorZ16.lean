/- Routes by range: both RoutesOk. Ranges and entries compared; a slice compared with nil. Are two routes the same; FnRouteCmp: the walk. -/
import Derived.Test.YtonojegnbcgnaaaDoorZ14
import Derived.Test.YtonojegnbcgnaaaDoorZ9
import Derived.Test.YtonojegnbcgnaaaDoorZ3
import Derived.Laws.StructEq
import Derived.Lib.SliceRun
import Derived.Test.YtonojegnbcgnaaaDoorZ13
set_option linter.unusedSimpArgs false
set_option linter.unusedVariables false
namespace Go.Proofs.YtonojegnbcgnaaaDoor
open Go.RowKit

def rcS (s t : Rt) : Int := rcmp s.1 s.2.1 t.1 t.2.1
def RsStep (L : List Rt) (k : Nat) : Prop := ROkS (rat L k) ∧ (0 < k → rcS (rat L (k - 1)) (rat L k) < 0)
instance (L : List Rt) (k : Nat) : Decidable (RsStep L k) := by unfold RsStep; infer_instance
/-- Routes stand by range, each once, and are not too many. -/
def RsOk (L : List Rt) : Prop := L.length ≤ 12 ∧ ∀ k, k < L.length → RsStep L k
instance (L : List Rt) : Decidable (RsOk L) := by unfold RsOk; infer_instance
theorem rs_no {L : List Rt} {n k : Nat} (hn : L.length = n) (hk : k < n) (h : ¬ RsStep L k) : decide (RsOk L) = false := decide_eq_false fun g => h (g.2 k (by omega))
theorem rs_yes {L : List Rt} {n : Nat} (hn : L.length = n) (h12 : n ≤ 12) (h : ∀ j, j < n → RsStep L j) : decide (RsOk L) = true := decide_eq_true ⟨by omega, fun k hk => h k (by omega)⟩
theorem rs_long {L : List Rt} {n : Nat} (hn : L.length = n) (h12 : ¬ n ≤ 12) : decide (RsOk L) = false := decide_eq_false fun g => h12 (by rw [← hn]; exact g.1)
theorem rs_go {L : List Rt} {k : Nat} (h : ∀ j, j < k → RsStep L j) (hs : RsStep L k) : ∀ j, j < k + 1 → RsStep L j := fun j hj => by
  by_cases e : j = k
  · rw [e]; exact hs
  · exact h j (by omega)
theorem rs_0 {L : List Rt} {s : Rt} (h : L[0]? = some s) : RsStep L 0 ↔ ROkS s := by
  unfold RsStep; rw [rat_of h]
  exact ⟨fun g => g.1, fun g => ⟨g, fun e => by omega⟩⟩
theorem rs_s {L : List Rt} {k : Nat} {s t : Rt} (hk : 0 < k) (ht : L[k - 1]? = some t) (h : L[k]? = some s) : RsStep L k ↔ ROkS s ∧ rcS t s < 0 := by
  unfold RsStep; rw [rat_of h, rat_of ht]
  exact ⟨fun g => ⟨g.1, g.2 hk⟩, fun g => ⟨g.1, fun _ => g.2⟩⟩
theorem rs_r {L : List Rt} {k : Nat} {s : Rt} (h : L[k]? = some s) (g : RsStep L k) : ROkS s := by
  have := g.1; rwa [rat_of h] at this
theorem rc_lt {f b g c : Int} : rcmp f b g c < 0 ↔ f < g ∨ f = g ∧ b < c := by unfold rcmp icmp; (repeat' split) <;> omega
theorem rcS_trans {s t u : Rt} (h1 : rcS s t < 0) (h2 : rcS t u < 0) : rcS s u < 0 := by
  unfold rcS at *
  rw [rc_lt] at *
  omega
theorem rcS_self (s : Rt) : rcS s s = 0 := by unfold rcS rcmp icmp; (repeat' split) <;> omega
theorem rs_pair {L : List Rt} : (∀ k, k < L.length → RsStep L k) ↔ (∀ s ∈ L, ROkS s) ∧ L.Pairwise (fun s t => rcS s t < 0) := by
  constructor
  · intro h
    refine ⟨fun s hs => ?_, List.pairwise_iff_getElem.2 fun i j hi hj hij => ?_⟩
    · obtain ⟨i, hi⟩ := List.mem_iff_getElem?.1 hs
      exact rs_r hi (h i (List.getElem?_eq_some_iff.1 hi).1)
    · induction j with
      | zero => omega
      | succ j ih =>
        have h1 := ((rs_s (by omega) (List.getElem?_eq_getElem (show j + 1 - 1 < L.length by omega)) (List.getElem?_eq_getElem hj)).1 (h (j + 1) hj)).2
        simp only [Nat.add_sub_cancel] at h1
        by_cases e : i = j
        · subst e; exact h1
        · exact rcS_trans (ih (by omega) (by omega)) h1
  · rintro ⟨h1, h2⟩ k hk
    refine ⟨by rw [rat_of (List.getElem?_eq_getElem hk)]; exact h1 _ (List.getElem_mem hk), fun h0 => ?_⟩
    rw [rat_of (List.getElem?_eq_getElem hk), rat_of (List.getElem?_eq_getElem (show k - 1 < L.length by omega))]
    exact List.pairwise_iff_getElem.1 h2 (k - 1) k (by omega) hk (by omega)
theorem rs_less {L : List Rt} (h : RsOk L) (k : Nat) : RsOk (L.take k ++ L.drop (k + 1)) := by
  obtain ⟨h1, h2⟩ := h
  rw [rs_pair] at h2
  have hs : (L.take k ++ L.drop (k + 1)).Sublist L := by
    have : (L.take k ++ L.drop (k + 1)).Sublist (L.take k ++ L.drop k) := List.Sublist.append_left (by
      rw [show k + 1 = k + 1 from rfl, ← List.drop_drop]
      exact List.drop_sublist ..) _
    rwa [List.take_append_drop] at this
  exact ⟨Nat.le_trans hs.length_le h1, rs_pair.2 ⟨fun s m => h2.1 s (hs.subset m), h2.2.sublist hs⟩⟩
theorem rs_twice {L : List Rt} {k : Nat} (hk : k < L.length) : ¬ RsOk (L.take (k + 1) ++ L.drop k) := fun h => by
  have h2 := h.2 (k + 1) (by simp; omega)
  have e1 : (L.take (k + 1) ++ L.drop k)[k]? = some L[k] := by
    rw [List.getElem?_append_left (by simp; omega), List.getElem?_take, if_pos (by omega)]; exact List.getElem?_eq_getElem hk
  have e2 : (L.take (k + 1) ++ L.drop k)[k + 1]? = some L[k] := by
    rw [List.getElem?_append_right (by simp; omega), List.getElem?_drop]
    rw [show k + (k + 1 - (L.take (k + 1)).length) = k by simp; omega]
    exact List.getElem?_eq_getElem hk
  have := ((rs_s (L := L.take (k + 1) ++ L.drop k) (by omega) (by simpa using e1) e2).1 h2).2
  rw [rcS_self] at this
  omega
set_option maxHeartbeats 4000000 in
theorem sRoutesOk_any (v : Value) (L : List Rt) (w : World) (hv : Rts w v L) :
    Calls Tryd.prog 23 #[v] w fun e w' => e = .returned (.bool (decide (RsOk L))) ∧ Below w.heap.size w w' := by
  have hF := Fb.start w
  obtain ⟨ao, n, cap, rfl, hn, hnc, hcap⟩ := GLs.sl hv
  have HV := Lib.hid hv
  clear hv
  go_enter Tryd.func23, Tryd.ntmps23
  go_wp2
  go_loopw [3] (fun s3 wr => ∃ k : Nat, k ≤ n ∧ s3 = .int .i64 k ∧ Hid (∀ j, j < k → RsStep L j) ∧ Fb w wr []) (fun i _ => n - (intOf i).toNat)
  case atStart => exact ⟨0, Nat.zero_le _, rfl, fun s h => (by omega), hF⟩
  case round =>
    clear hF
    obtain ⟨k, hk, rfl, hz, hF⟩ := hrel
    by_cases hlt : k < n
    · obtain ⟨b1, p1, rfl⟩ := GLs.adr HV.out (by omega)
      obtain ⟨s, hs⟩ := get_of hn.out hlt
      have HS := Lib.hid hs
      obtain ⟨f, b, lk, P, M⟩ := s
      obtain ⟨a1, m1, c1, a2, m2, c2, e0, e1, e2, e3, e4, i1, i2⟩ := Rts.at HV.out hs
      clear hs
      have x0 := fun z : Cl wr.heap.size wr => Cl.old hF z e0
      have x1 := fun z : Cl wr.heap.size wr => Cl.old hF z e1
      have x2 := fun z : Cl wr.heap.size wr => Cl.old hF z e2
      have x3 := fun z : Cl wr.heap.size wr => Cl.old hF z e3
      have x4 := fun z : Cl wr.heap.size wr => Cl.old hF z e4
      by_cases hq : RtOk f b P lk M
      · have cO := Lib.hid (fun z : Cl wr.heap.size wr => (show Calls Tryd.prog 38 #[.agg #[.int .i64 f, .int .i64 b, .slice a1 m1 c1, .int .i64 lk, .slice a2 m2 c2]] z.W fun e w' => e = .returned (.bool true) ∧ Below z.W.heap.size z.W w' from by have := sRouteOk_any f b lk _ _ P M z.W (Rows.below i1 (hF.cl z).kp) (Rows.below i2 (hF.cl z).kp); rwa [decide_eq_true hq] at this))
        clear e0 e1 e2 e3 e4 i1 i2
        by_cases h0 : k = 0
        · subst h0
          have hA : Hid (∀ j, j < 0 + 1 → RsStep L j) := rs_go hz.out ((rs_0 HS.out).2 hq)
          simp only [Nat.zero_mul, Nat.add_zero] at x0 x1 x2 x3 x4
          clear hq hz
          go_wp2
          first | refine wp_region_new (by kernel_rfl) (by kernel_rfl) ?_ | refine wp_region_lex ?_
          repeat (any_goals (first | go_big_quiet_step (((go_at_call 38; exact Calls.cl (cO.out _)))) | (refine wpQuiet_step (fun K hK => ?_); go_simp; split <;> (rename_i hg; refine hK _ ?_; clear hK K; simp only [hg, decide_true, decide_false]))))
          all_goals (refine wpQuiet_nil ?_; intro x)
          go_wp2
          go_roundw
          case rel => exact ⟨1, by omega, by go_num, hA, hF.cl ‹_›⟩
          case measure => simp [intOf]; omega
        · obtain ⟨t, ht⟩ := get_of hn.out (show k - 1 < n by omega)
          have HT := Lib.hid ht
          obtain ⟨g, c, l2, P2, M2⟩ := t
          obtain ⟨a3, m3, c3, a4, m4, c4, g0, g1, -, -, -, -, -⟩ := Rts.at HV.out ht
          have y0 := fun z : Cl wr.heap.size wr => Cl.old hF z g0
          have y1 := fun z : Cl wr.heap.size wr => Cl.old hF z g1
          obtain ⟨N, hN⟩ : ∃ N, rcmp g c f b = N := ⟨_, rfl⟩
          have cC := Lib.hid (fun z : Cl wr.heap.size wr => (show Calls Tryd.prog 61 #[.agg #[.int .i64 g, .int .i64 c], .agg #[.int .i64 f, .int .i64 b]] z.W fun e w' => e = .returned (.int .i64 N) ∧ Below z.W.heap.size z.W w' from by have := l1Cmp_any g c f b z.W; rwa [hN] at this))
          have HN := Lib.hid hN
          have HQ := Lib.hid hq
          have k1 : ((k : Int) - 1).toNat = k - 1 := by omega
          have k2 : IntKind.i64.wrap ((k : Int) - 1) = (k : Int) - 1 := IntWalk.i64_in _ (by omega)
          have k3 : (1 : Int) ≤ (k : Int) := by omega
          have k4 : (k : Int) - 1 < (n : Int) := by omega
          have k5 : decide (0 < (k : Int)) = true := decide_eq_true (by omega)
          have k6 : decide (0 < k) = true := decide_eq_true (by omega)
          have k7 : (0 : Int) ≤ (k : Int) - 1 := by omega
          clear ht g0 g1 hN hq
          by_cases hlz : N < 0
          · have hA : Hid (∀ j, j < k + 1 → RsStep L j) := rs_go hz.out ((rs_s (by omega) HT.out HS.out).2 ⟨HQ.out, by unfold rcS; rw [show rcmp g c f b = N from HN.out]; exact hlz⟩)
            have dN : decide (0 ≤ N) = false := decide_eq_false (by omega)
            clear hlz
            go_wp2
            first | refine wp_region_new (by kernel_rfl) (by kernel_rfl) ?_ | refine wp_region_lex ?_
            repeat (any_goals (first | go_big_quiet_step ((first | (go_at_call 38; exact Calls.cl (cO.out _)) | (go_at_call 61; exact Calls.cl (cC.out _)))) | (refine wpQuiet_step (fun K hK => ?_); go_simp; split <;> (rename_i hg; refine hK _ ?_; clear hK K; simp only [hg, decide_true, decide_false]))))
            all_goals (refine wpQuiet_nil ?_; intro x)
            go_wp2
            go_roundw
            case rel => exact ⟨k + 1, by omega, by go_num, hA, hF.cl ‹_›⟩
            case measure => simp [intOf]; omega
          · have hr : Hid (decide (RsOk L) = false) := rs_no hn.out hlt (fun g9 => hlz (by have := ((rs_s (by omega) HT.out HS.out).1 g9).2; unfold rcS at this; rw [show rcmp g c f b = N from HN.out] at this; exact this))
            have dN : decide (0 ≤ N) = true := decide_eq_true (by omega)
            clear hlz
            go_wp2
            first | refine wp_region_new (by kernel_rfl) (by kernel_rfl) ?_ | refine wp_region_lex ?_
            repeat (any_goals (first | go_big_quiet_step ((first | (go_at_call 38; exact Calls.cl (cO.out _)) | (go_at_call 61; exact Calls.cl (cC.out _)))) | (refine wpQuiet_step (fun K hK => ?_); go_simp; split <;> (rename_i hg; refine hK _ ?_; clear hK K; simp only [hg, decide_true, decide_false]))))
            all_goals (refine wpQuiet_nil ?_; intro x)
            go_wp2
            go_ret
            exact ⟨by rw [hr.out]; rfl, (hF.cl ‹_›).kp⟩
      · have cO := Lib.hid (fun z : Cl wr.heap.size wr => (show Calls Tryd.prog 38 #[.agg #[.int .i64 f, .int .i64 b, .slice a1 m1 c1, .int .i64 lk, .slice a2 m2 c2]] z.W fun e w' => e = .returned (.bool false) ∧ Below z.W.heap.size z.W w' from by have := sRouteOk_any f b lk _ _ P M z.W (Rows.below i1 (hF.cl z).kp) (Rows.below i2 (hF.cl z).kp); rwa [decide_eq_false hq] at this))
        have hr : Hid (decide (RsOk L) = false) := rs_no hn.out hlt (fun g => hq (rs_r HS.out g))
        clear e0 e1 e2 e3 e4 i1 i2 hq
        go_wp2
        first | refine wp_region_new (by kernel_rfl) (by kernel_rfl) ?_ | refine wp_region_lex ?_
        repeat (any_goals (first | go_big_quiet_step (((go_at_call 38; exact Calls.cl (cO.out _)))) | (refine wpQuiet_step (fun K hK => ?_); go_simp; split <;> (rename_i hg; refine hK _ ?_; clear hK K; simp only [hg, decide_true, decide_false]))))
        all_goals (refine wpQuiet_nil ?_; intro x)
        go_wp2
        go_ret
        exact ⟨by rw [hr.out]; rfl, (hF.cl ‹_›).kp⟩
    · by_cases h12 : n ≤ 12
      · have d1 : decide ((n : Int) ≤ 12) = true := decide_eq_true (by omega)
        have hr : Hid (decide (RsOk L) = true) := rs_yes hn.out h12 (fun j hj => hz.out j (by omega))
        go_wp2
        go_ret
        exact ⟨by rw [hr.out]; first | rfl | (simp; omega), hF.kp⟩
      · have d1 : decide ((n : Int) ≤ 12) = false := decide_eq_false (by omega)
        have hr : Hid (decide (RsOk L) = false) := rs_long hn.out h12
        go_wp2
        go_ret
        exact ⟨by rw [hr.out]; first | rfl | (simp; omega), hF.kp⟩
end Go.Proofs.YtonojegnbcgnaaaDoor
set_option linter.unusedSimpArgs false
set_option linter.unusedVariables false
namespace Go.Proofs.YtonojegnbcgnaaaDoor
open Go.RowKit

theorem rng_fields : (Tryd.prog.fieldsOf 24).toList = [⟨ "First", 3, 0, false, "", "", 0⟩, ⟨ "Bits", 3, 1, false, "", "", 8⟩] := by kernel_rfl
theorem rng_eq (f b g c : Int) (d : Nat) (w : World) : (Op.equalIn (d + 2) 24 (.agg #[.int .i64 f, .int .i64 b]) (.agg #[.int .i64 g, .int .i64 c])).run Tryd.prog w = .ok (f == g && b == c) w := by
  rw [run_equalIn_agg w (d + 1) 24 _ _ (by kernel_rfl) (by kernel_rfl), rng_fields]
  cases h1 : (f == g) <;> cases h2 : (b == c) <;> simp [Op.eqFields, go_sem, h1, h2]
theorem rng_neq (f b g c : Int) (w : World) : (binOp .neq 24 (.agg #[.int .i64 f, .int .i64 b]) (.agg #[.int .i64 g, .int .i64 c])).run Tryd.prog w = .ok (.bool (!(f == g && b == c))) w := by
  rw [run_neq_struct, rng_eq f b g c 9998]; rfl
theorem rng_eql (f b g c : Int) (w : World) : (binOp .eql 24 (.agg #[.int .i64 f, .int .i64 b]) (.agg #[.int .i64 g, .int .i64 c])).run Tryd.prog w = .ok (.bool (f == g && b == c)) w := by
  rw [run_eql_struct, rng_eq f b g c 9998]; rfl
end Go.Proofs.YtonojegnbcgnaaaDoor
set_option linter.unusedSimpArgs false
set_option linter.unusedVariables false
namespace Go.Proofs.YtonojegnbcgnaaaDoor
open Go.RowKit

set_option maxHeartbeats 4000000 in
theorem lyRoute_any (f b lk : Int) (pv mv : Value) (P M : List Int) (g c lk2 : Int) (pv2 mv2 : Value) (P2 M2 : List Int) (w : World) (hp : Ints w pv P) (hm : Ints w mv M) (hp2 : Ints w pv2 P2) (hm2 : Ints w mv2 M2) :
    Calls Tryd.prog 14 #[.agg #[.int .i64 f, .int .i64 b, pv, .int .i64 lk, mv], .agg #[.int .i64 g, .int .i64 c, pv2, .int .i64 lk2, mv2]] w fun e w' => e = .returned (.bool (decide (SameR f b lk P M g c lk2 P2 M2))) ∧ Below w.heap.size w w' := by
  obtain ⟨o1, c1, rfl, -⟩ := hp.ex
  obtain ⟨o2, c2, rfl, -⟩ := hm.ex
  obtain ⟨o3, c3, rfl, -⟩ := hp2.ex
  obtain ⟨o4, c4, rfl, -⟩ := hm2.ex
  have hF := ((Fb.start w).alloc [.int .i64 f, .int .i64 b, .slice o1 P.length c1, .int .i64 lk, .slice o2 M.length c2] 27).alloc [.int .i64 g, .int .i64 c, .slice o3 P2.length c3, .int .i64 lk2, .slice o4 M2.length c4] 27
  have hb0 := hF.kp
  simp only [World.size_alloc] at hF
  replace hp := Rows.below hp hb0
  replace hm := Rows.below hm hb0
  replace hp2 := Rows.below hp2 hb0
  replace hm2 := Rows.below hm2 hb0
  clear hb0
  have o := hF.own; simp only [World.size_alloc, World.size_drew, World.size_setCell, List.mem_cons, List.not_mem_nil, or_false, forall_eq_or_imp, forall_eq, At, and_true, Nat.zero_add, Nat.reduceAdd, List.set_cons_zero, List.set_cons_succ] at o
  have tok1 : True := trivial
  by_cases e1 : f = g ∧ b = c
  · have heql : ∀ w, (binOp .eql 24 (.agg #[.int .i64 f, .int .i64 b]) (.agg #[.int .i64 g, .int .i64 c])).run Tryd.prog w = .ok (.bool true) w := fun w => by rw [rng_eql]; simp [e1]
    by_cases e2 : P = P2
    · have L1 := Lib.hid (fun (w : World) (g1 : Ints w (.slice o1 P.length c1) P) (g2 : Ints w (.slice o3 P2.length c3) P2) => (show Calls Tryd.prog 32 #[.slice o1 P.length c1, .slice o3 P2.length c3] w fun e w' => e = .returned (.bool true) ∧ Below w.heap.size w w' from by have := lyInts_any _ _ P P2 w g1 g2; rwa [(decide_eq_true e2)] at this))
      by_cases e3 : lk = lk2
      · have d3 : (lk == lk2) = true := by simp [e3]
        have hr : Hid (decide (SameR f b lk P M g c lk2 P2 M2) = decide (M = M2)) := decide_eq_decide.2 ⟨fun q => q.2.2.2, fun q => ⟨e1, e2, e3, q⟩⟩
        clear e1 e2 e3
        go_enter Tryd.func14, Tryd.ntmps14
        go_wp2_with (first | (go_at_call 32; clear tok1; go_must (refine (L1.out _ hp hp2).mono ?_); rintro e wx ⟨rfl, hbx⟩; (replace hF := hF.below hbx; (try replace hp := Rows.below hp hbx); (try replace hm := Rows.below hm hbx); (try replace hp2 := Rows.below hp2 hbx); (try replace hm2 := Rows.below hm2 hbx); clear hbx o; have o := hF.own; simp only [World.size_alloc, World.size_drew, World.size_setCell, List.mem_cons, List.not_mem_nil, or_false, forall_eq_or_imp, forall_eq, At, and_true, Nat.zero_add, Nat.reduceAdd, List.set_cons_zero, List.set_cons_succ] at o)) | (go_at_call 32; go_must (refine (lyInts_any _ _ M M2 _ hm hm2).mono ?_); rintro e wx ⟨rfl, hbx⟩; (replace hF := hF.below hbx; (try replace hp := Rows.below hp hbx); (try replace hm := Rows.below hm hbx); (try replace hp2 := Rows.below hp2 hbx); (try replace hm2 := Rows.below hm2 hbx); clear hbx o; have o := hF.own; simp only [World.size_alloc, World.size_drew, World.size_setCell, List.mem_cons, List.not_mem_nil, or_false, forall_eq_or_imp, forall_eq, At, and_true, Nat.zero_add, Nat.reduceAdd, List.set_cons_zero, List.set_cons_succ] at o)))
        go_ret
        exact ⟨by rw [hr.out]; rfl, hF.kp⟩
      · have d3 : (lk == lk2) = false := by simp [e3]
        have hr : Hid (decide (SameR f b lk P M g c lk2 P2 M2) = false) := decide_eq_false fun q => e3 q.2.2.1
        clear e1 e2 e3
        go_enter Tryd.func14, Tryd.ntmps14
        go_wp2_with ((go_at_call 32; clear tok1; go_must (refine (L1.out _ hp hp2).mono ?_); rintro e wx ⟨rfl, hbx⟩; (replace hF := hF.below hbx; (try replace hp := Rows.below hp hbx); (try replace hm := Rows.below hm hbx); (try replace hp2 := Rows.below hp2 hbx); (try replace hm2 := Rows.below hm2 hbx); clear hbx o; have o := hF.own; simp only [World.size_alloc, World.size_drew, World.size_setCell, List.mem_cons, List.not_mem_nil, or_false, forall_eq_or_imp, forall_eq, At, and_true, Nat.zero_add, Nat.reduceAdd, List.set_cons_zero, List.set_cons_succ] at o)))
        go_ret
        exact ⟨by rw [hr.out]; rfl, hF.kp⟩
    · have L1 := Lib.hid (fun (w : World) (g1 : Ints w (.slice o1 P.length c1) P) (g2 : Ints w (.slice o3 P2.length c3) P2) => (show Calls Tryd.prog 32 #[.slice o1 P.length c1, .slice o3 P2.length c3] w fun e w' => e = .returned (.bool false) ∧ Below w.heap.size w w' from by have := lyInts_any _ _ P P2 w g1 g2; rwa [(decide_eq_false e2)] at this))
      have hr : Hid (decide (SameR f b lk P M g c lk2 P2 M2) = false) := decide_eq_false fun q => e2 q.2.1
      clear e1 e2
      go_enter Tryd.func14, Tryd.ntmps14
      go_wp2_with ((go_at_call 32; clear tok1; go_must (refine (L1.out _ hp hp2).mono ?_); rintro e wx ⟨rfl, hbx⟩; (replace hF := hF.below hbx; (try replace hp := Rows.below hp hbx); (try replace hm := Rows.below hm hbx); (try replace hp2 := Rows.below hp2 hbx); (try replace hm2 := Rows.below hm2 hbx); clear hbx o; have o := hF.own; simp only [World.size_alloc, World.size_drew, World.size_setCell, List.mem_cons, List.not_mem_nil, or_false, forall_eq_or_imp, forall_eq, At, and_true, Nat.zero_add, Nat.reduceAdd, List.set_cons_zero, List.set_cons_succ] at o)))
      go_ret
      exact ⟨by rw [hr.out]; rfl, hF.kp⟩
  · have heql : ∀ w, (binOp .eql 24 (.agg #[.int .i64 f, .int .i64 b]) (.agg #[.int .i64 g, .int .i64 c])).run Tryd.prog w = .ok (.bool false) w := fun w => by
      rw [rng_eql]
      have : (f == g && b == c) = false := by rw [Bool.eq_false_iff]; intro q; simp at q; exact e1 q
      rw [this]
    have hr : Hid (decide (SameR f b lk P M g c lk2 P2 M2) = false) := decide_eq_false fun q => e1 q.1
    clear e1
    go_enter Tryd.func14, Tryd.ntmps14
    go_wp2_with fail
    go_ret
    exact ⟨by rw [hr.out]; rfl, hF.kp⟩
theorem bdI {N : Int} (h : -1 ≤ N ∧ N ≤ 1) : N = -1 ∨ N = 0 ∨ N = 1 := by omega
end Go.Proofs.YtonojegnbcgnaaaDoor
