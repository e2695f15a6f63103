/- What a house told: rows of routes with a mark each, and what makes them ok. A route drawn that a house tells. Routes drawn in a row; the best of routes by the model. -/
import Derived.Test.YtonojegnbcgnaaaDoorZ14
import Derived.Test.YtonojegnbcgnaaaDoorZ10
import Derived.Test.YtonojegnbcgnaaaDoorZ11
set_option linter.unusedSimpArgs false
set_option linter.unusedVariables false
namespace Go.Proofs.YtonojegnbcgnaaaDoor
open Go.RowKit

/-- A route, and whether it is old. -/
abbrev Gt := Rt × Bool
structure GtD where
  f : Int
  b : Int
  lk : Int
  u : Value
  v : Value
  o : Bool
def encGt (d : GtD) : List Value := [.int .i64 d.f, .int .i64 d.b, d.u, .int .i64 d.lk, d.v, .bool d.o]
def shGt : Sh GtD Gt where
  sz := 6
  enc := encGt
  len _ := rfl
  pos := by decide
  subs d := [d.u, d.v]
  rd w d s := (d.f = s.1.1 ∧ d.b = s.1.2.1 ∧ d.lk = s.1.2.2.1 ∧ d.o = s.2) ∧ It w d.u s.1.2.2.2.1 ∧ It w d.v s.1.2.2.2.2
  keep hg hs h := ⟨h.1, ⟨Rows.far h.2.1.1 hg (hs _ (by simp)), h.2.1.2⟩, ⟨Rows.far h.2.2.1 hg (hs _ (by simp)), h.2.2.2⟩⟩
  one h u hu := by
    simp [encGt] at hu
    rcases hu with rfl | rfl | rfl | rfl | rfl | rfl
    · rfl
    · rfl
    · exact ints_one h.2.1.1
    · rfl
    · exact ints_one h.2.2.1
    · rfl
abbrev Gts (w : World) (v : Value) (L : List Gt) : Prop := GLs shGt w v L
theorem infoGt : (Tryd.prog.info? 48).map (fun i => (i.zero, i.size, i.bytes)) = some (some (.agg #[.int .i64 0, .int .i64 0, .slice none 0 0, .int .i64 0, .slice none 0 0, .bool false]), 6, 80) := by kernel_rfl
/-- One of it: its cells, its path and marks. -/
theorem Gts.at {w : World} {b off n cap : Nat} {L : List Gt} (h : Gts w (.slice (some ⟨b, off, none⟩) n cap) L) {k : Nat} {f c lk : Int} {P M : List Int} {o : Bool} (hk : L[k]? = some ((f, c, lk, P, M), o)) :
    ∃ a1 m1 c1 a2 m2 c2, (w.cell? ⟨b, off + k * 6, none⟩ = some (.int .i64 f) ∧ w.cell? ⟨b, off + k * 6 + 1, none⟩ = some (.int .i64 c) ∧ w.cell? ⟨b, off + k * 6 + 2, none⟩ = some (.slice a1 m1 c1) ∧ w.cell? ⟨b, off + k * 6 + 3, none⟩ = some (.int .i64 lk) ∧ w.cell? ⟨b, off + k * 6 + 4, none⟩ = some (.slice a2 m2 c2) ∧ w.cell? ⟨b, off + k * 6 + 5, none⟩ = some (.bool o)) ∧ It w (.slice a1 m1 c1) P ∧ It w (.slice a2 m2 c2) M := by
  obtain ⟨d, ⟨⟨e1, e2, e3, e4⟩, h1, h2⟩, hc⟩ := GLs.at h hk
  obtain ⟨df, db, dl, du, dv, dO⟩ := d
  dsimp only at e1 e2 e3 e4 h1 h2
  subst e1; subst e2; subst e3; subst e4
  obtain ⟨a1, m1, c1, rfl, _⟩ := Ints.sl h1.1
  obtain ⟨a2, m2, c2, rfl, _⟩ := Ints.sl h2.1
  exact ⟨a1, m1, c1, a2, m2, c2, ⟨hc 0 _ rfl, hc 1 _ rfl, hc 2 _ rfl, hc 3 _ rfl, hc 4 _ rfl, hc 5 _ rfl⟩, h1, h2⟩
def gat (L : List Gt) (k : Nat) : Gt := L.getD k (rt0, false)
theorem gat_of {L : List Gt} {k : Nat} {x : Gt} (h : L[k]? = some x) : gat L k = x := by simp [gat, List.getD, h]
/-- The house at the head of a route. -/
def hd (s : Rt) : Int := s.2.2.2.1.getD 0 0
def RbStep (H : Int) (up : Bool) (L : List Gt) (k : Nat) : Prop := (ROkS (gat L k).1 ∧ hd (gat L k).1 = H ∧ (up = true ∨ (gat L k).2 = true)) ∧ (0 < k → rcS (gat L (k - 1)).1 (gat L k).1 < 0)
instance (H : Int) (up : Bool) (L : List Gt) (k : Nat) : Decidable (RbStep H up L k) := by unfold RbStep; infer_instance
def RbOk (H : Int) (up : Bool) (L : List Gt) : Prop := (Bts H 1 5 ∧ L.length ≤ 6) ∧ ∀ k, k < L.length → RbStep H up L k
instance (H : Int) (up : Bool) (L : List Gt) : Decidable (RbOk H up L) := by unfold RbOk; infer_instance
section
variable {H : Int} {up : Bool} {L : List Gt} {n k : Nat}
theorem rb_no (hn : L.length = n) (hk : k < n) (h : ¬ RbStep H up L k) : decide (RbOk H up L) = false := decide_eq_false fun g => h (g.2 k (by omega))
theorem rb_yes (hn : L.length = n) (hb : Bts H 1 5) (h6 : n ≤ 6) (h : ∀ j, j < n → RbStep H up L j) : decide (RbOk H up L) = true := decide_eq_true ⟨⟨hb, by omega⟩, fun k hk => h k (by omega)⟩
theorem rb_long (hn : L.length = n) (h : ¬ n ≤ 6) : decide (RbOk H up L) = false := decide_eq_false fun g => h (by rw [← hn]; exact g.1.2)
theorem rb_house (h : ¬ Bts H 1 5) : decide (RbOk H up L) = false := decide_eq_false fun g => h g.1.1
theorem rb_go (h : ∀ j, j < k → RbStep H up L j) (hs : RbStep H up L k) : ∀ j, j < k + 1 → RbStep H up L j := fun j hj => by
  by_cases e : j = k
  · rw [e]; exact hs
  · exact h j (by omega)
theorem rb_0 {s : Gt} (h : L[0]? = some s) : RbStep H up L 0 ↔ ROkS s.1 ∧ hd s.1 = H ∧ (up = true ∨ s.2 = true) := by
  unfold RbStep; rw [gat_of h]
  exact ⟨fun g => g.1, fun g => ⟨g, fun e => by omega⟩⟩
theorem rb_s {s t : Gt} (hk : 0 < k) (ht : L[k - 1]? = some t) (h : L[k]? = some s) : RbStep H up L k ↔ (ROkS s.1 ∧ hd s.1 = H ∧ (up = true ∨ s.2 = true)) ∧ rcS t.1 s.1 < 0 := by
  unfold RbStep; rw [gat_of h, gat_of ht]
  exact ⟨fun g => ⟨g.1, g.2 hk⟩, fun g => ⟨g.1, fun _ => g.2⟩⟩
theorem rb_r {s : Gt} (h : L[k]? = some s) (g : RbStep H up L k) : ROkS s.1 ∧ hd s.1 = H ∧ (up = true ∨ s.2 = true) := by
  have := g.1; rwa [gat_of h] at this
end
set_option maxRecDepth 100000 in
set_option maxHeartbeats 8000000 in
theorem sRibOk_any (H : Int) (up : Bool) (v : Value) (L : List Gt) (w : World) (hv : Gts w v L) :
    Calls Tryd.prog 26 #[.agg #[.int .i64 H, .bool up, v]] w fun e w' => e = .returned (.bool (decide (RbOk H up L))) ∧ Below w.heap.size w w' := by
  obtain ⟨ao, n, cap, rfl, hn, hnc, hcap⟩ := GLs.sl hv
  have hF := (Fb.start w).alloc [.int .i64 H, .bool up, .slice ao n cap] 44
  obtain ⟨n1, hn1⟩ : ∃ n, w.heap.size = n := ⟨_, rfl⟩
  rw [hn1] at hF
  have HV := Lib.hid hv
  clear hv
  have o := hF.own; simp only [World.size_alloc, World.size_drew, World.size_setCell, List.mem_cons, List.not_mem_nil, or_false, forall_eq_or_imp, forall_eq, At, and_true, Nat.zero_add, Nat.reduceAdd, List.set_cons_zero, List.set_cons_succ] at o
  go_enter Tryd.func26, Tryd.ntmps26
  go_wp2
  clear hn1
  go_loopw [3, 4] (fun s3 s4 wr => ∃ k : Nat, k ≤ n ∧ s3 = .int .i64 k ∧ Hid (∀ j, j < k → RbStep H up L j) ∧ Fb w wr [(n1, [.int .i64 H, .bool up, .slice ao n cap])]) (fun i _ _ => n - (intOf i).toNat)
  case atStart => exact ⟨0, Nat.zero_le _, rfl, fun s h => (by omega), hF⟩
  case round =>
    clear hF o
    obtain ⟨k, hk, rfl, hz, hF⟩ := hrel
    have o := hF.own; simp only [World.size_alloc, World.size_drew, World.size_setCell, List.mem_cons, List.not_mem_nil, or_false, forall_eq_or_imp, forall_eq, At, and_true, Nat.zero_add, Nat.reduceAdd, List.set_cons_zero, List.set_cons_succ] at o
    by_cases hlt : k < n
    · obtain ⟨b1, p1, rfl⟩ := GLs.adr HV.out (by omega)
      obtain ⟨s, hs⟩ := get_of hn.out hlt
      have HS := Lib.hid hs
      obtain ⟨⟨f, b, lk, P, M⟩, old⟩ := s
      obtain ⟨a1, m1, c1, a2, m2, c2, ⟨e0, e1, e2, e3, e4, e5⟩, i1, i2⟩ := Gts.at HV.out hs
      replace i1 := i1.1
      replace i2 := i2.1
      have x0 := hF.old e0
      have x1 := hF.old e1
      have x2 := hF.old e2
      have x3 := hF.old e3
      have x4 := hF.old e4
      have x5 := hF.old e5
      obtain ⟨wa, hwa⟩ : ∃ wa, wr.alloc (.cells #[.int .i64 f, .int .i64 b, .slice a1 m1 c1, .int .i64 lk, .slice a2 m2 c2, .bool old] 48) = wa := ⟨_, rfl⟩
      obtain ⟨n4, hn4⟩ : ∃ n4, wr.heap.size = n4 := ⟨_, rfl⟩
      have hF2 : Fb w wa [(n4, [.int .i64 f, .int .i64 b, .slice a1 m1 c1, .int .i64 lk, .slice a2 m2 c2, .bool old]), (n1, [.int .i64 H, .bool up, .slice (some ⟨b1, p1, none⟩) n cap])] := by rw [← hwa, ← hn4]; exact hF.alloc _ _
      clear hs
      go_wp2
      clear hF o x0 x1 x2 x3 x4 x5 hn4
      have hF := hF2
      clear hF2 hwa
      have oc := fun x : Cl _ wa => (Fb.cl hF x).own; simp only [World.size_alloc, World.size_drew, World.size_setCell, List.mem_cons, List.not_mem_nil, or_false, forall_eq_or_imp, forall_eq, At, and_true, Nat.zero_add, Nat.reduceAdd, List.set_cons_zero, List.set_cons_succ] at oc
      by_cases hq : RtOk f b P lk M
      · have cO := Lib.hid (fun z : Cl wa.heap.size wa => (show Calls Tryd.prog 38 #[.agg #[.int .i64 f, .int .i64 b, .slice a1 m1 c1, .int .i64 lk, .slice a2 m2 c2]] z.W fun e w' => e = .returned (.bool true) ∧ Below z.W.heap.size z.W w' from by have := sRouteOk_any f b lk _ _ P M z.W (Rows.below i1 (hF.cl z).kp) (Rows.below i2 (hF.cl z).kp); rwa [decide_eq_true hq] at this))
        obtain ⟨m, hm⟩ : ∃ m, Hid (P.length = m) := ⟨_, rfl⟩
        have hm0 : 0 < m := by have := hq.2.1; have := hm.out; omega
        obtain ⟨ao1, n5, cp1, ee, hn5, -, -⟩ := Ints.sl i1
        injection ee with ee1 ee2 ee3
        subst ee1; subst ee2; subst ee3
        have hm1 : 0 < m1 := by have := hq.2.1; have := hn5.out; omega
        obtain ⟨b5, p5, rfl⟩ := Ints.some i1 hm1
        obtain ⟨x, hx⟩ := get_of hn5.out hm1
        have hh := Lib.hid (show hd (f, b, lk, P, M) = x from by simp [hd, List.getD, hx])
        have y0 := Ints.get i1 hx
        simp only [Nat.add_zero] at y0
        have z0 := fun z : Cl wa.heap.size wa => Cl.old hF z y0
        have HQ := Lib.hid hq
        clear hm hm0 hx e0 e1 e2 e3 e4 e5 i1 i2 y0 hq
        by_cases hxH : x = H
        · have dx : (x != H) = false := by simp [hxH]
          have HH : Hid (hd (f, b, lk, P, M) = H) := hh.out.trans hxH
          clear hxH hh
          by_cases hou : up = true ∨ old = true
          · have HOU := Lib.hid hou
            by_cases h0 : k = 0
            · subst h0
              have hA : Hid (∀ j, j < 0 + 1 → RbStep H up L j) := rb_go hz.out ((rb_0 HS.out).2 ⟨HQ.out, HH.out, HOU.out⟩)
              clear hz
              have cC : Hid True := trivial
              rcases hou with rfl | rfl
              ·
                first | refine wp_region_new (by kernel_rfl) (by kernel_rfl) ?_ | refine wp_region_lex ?_
                repeat (any_goals (first | go_big_quiet_step ((first | (go_at_call 38; exact Calls.cl (cO.out _)) | (go_at_call 61; exact Calls.cl (cC.out _)))) | (refine wpQuiet_step (fun K hK => ?_); go_simp; split <;> (rename_i hg; refine hK _ ?_; clear hK K; simp only [hg, decide_true, decide_false]))))
                all_goals (refine wpQuiet_nil ?_; intro x)
                go_wp2
                go_roundw
                case rel => exact ⟨_, by omega, by go_num, hA, (hF.cl ‹_›).rest⟩
                case measure => simp [intOf]; omega
              · cases up with
                | true =>
                  first | refine wp_region_new (by kernel_rfl) (by kernel_rfl) ?_ | refine wp_region_lex ?_
                  repeat (any_goals (first | go_big_quiet_step ((first | (go_at_call 38; exact Calls.cl (cO.out _)) | (go_at_call 61; exact Calls.cl (cC.out _)))) | (refine wpQuiet_step (fun K hK => ?_); go_simp; split <;> (rename_i hg; refine hK _ ?_; clear hK K; simp only [hg, decide_true, decide_false]))))
                  all_goals (refine wpQuiet_nil ?_; intro x)
                  go_wp2
                  go_roundw
                  case rel => exact ⟨_, by omega, by go_num, hA, (hF.cl ‹_›).rest⟩
                  case measure => simp [intOf]; omega
                | false =>
                  first | refine wp_region_new (by kernel_rfl) (by kernel_rfl) ?_ | refine wp_region_lex ?_
                  repeat (any_goals (first | go_big_quiet_step ((first | (go_at_call 38; exact Calls.cl (cO.out _)) | (go_at_call 61; exact Calls.cl (cC.out _)))) | (refine wpQuiet_step (fun K hK => ?_); go_simp; split <;> (rename_i hg; refine hK _ ?_; clear hK K; simp only [hg, decide_true, decide_false]))))
                  all_goals (refine wpQuiet_nil ?_; intro x)
                  go_wp2
                  go_roundw
                  case rel => exact ⟨_, by omega, by go_num, hA, (hF.cl ‹_›).rest⟩
                  case measure => simp [intOf]; omega
            · obtain ⟨t, ht⟩ := get_of hn.out (show k - 1 < n by omega)
              have HT := Lib.hid ht
              obtain ⟨⟨g, c, l2, P2, M2⟩, old2⟩ := t
              obtain ⟨a3, m3, c3, a4, m4, c4, ⟨g0, g1, -, -, -, -⟩, -, -⟩ := Gts.at HV.out ht
              have y0 := fun z : Cl wa.heap.size wa => Cl.old hF z g0
              have y1 := fun z : Cl wa.heap.size wa => Cl.old hF z g1
              obtain ⟨N, hN⟩ : ∃ N, rcmp g c f b = N := ⟨_, rfl⟩
              have cC := Lib.hid (fun z : Cl wa.heap.size wa => (show Calls Tryd.prog 61 #[.agg #[.int .i64 g, .int .i64 c], .agg #[.int .i64 f, .int .i64 b]] z.W fun e w' => e = .returned (.int .i64 N) ∧ Below z.W.heap.size z.W w' from by have := l1Cmp_any g c f b z.W; rwa [hN] at this))
              have HN := Lib.hid hN
              have k1 : ((k : Int) - 1).toNat = k - 1 := by omega
              have k2 : IntKind.i64.wrap ((k : Int) - 1) = (k : Int) - 1 := IntWalk.i64_in _ (by omega)
              have k3 : (1 : Int) ≤ (k : Int) := by omega
              have k4 : (k : Int) - 1 < (n : Int) := by omega
              have k5 : decide (0 < (k : Int)) = true := decide_eq_true (by omega)
              have k6 : decide (0 < k) = true := decide_eq_true (by omega)
              have k7 : (0 : Int) ≤ (k : Int) - 1 := by omega
              clear ht g0 g1 hN
              by_cases hlz : N < 0
              · have hA : Hid (∀ j, j < k + 1 → RbStep H up L j) := rb_go hz.out ((rb_s (by omega) HT.out HS.out).2 ⟨⟨HQ.out, HH.out, HOU.out⟩, by unfold rcS; rw [show rcmp g c f b = N from HN.out]; exact hlz⟩)
                have dN : decide (0 ≤ N) = false := decide_eq_false (by omega)
                clear hlz
                rcases hou with rfl | rfl
                ·
                  first | refine wp_region_new (by kernel_rfl) (by kernel_rfl) ?_ | refine wp_region_lex ?_
                  repeat (any_goals (first | go_big_quiet_step ((first | (go_at_call 38; exact Calls.cl (cO.out _)) | (go_at_call 61; exact Calls.cl (cC.out _)))) | (refine wpQuiet_step (fun K hK => ?_); go_simp; split <;> (rename_i hg; refine hK _ ?_; clear hK K; simp only [hg, decide_true, decide_false]))))
                  all_goals (refine wpQuiet_nil ?_; intro x)
                  go_wp2
                  go_roundw
                  case rel => exact ⟨_, by omega, by go_num, hA, (hF.cl ‹_›).rest⟩
                  case measure => simp [intOf]; omega
                · cases up with
                  | true =>
                    first | refine wp_region_new (by kernel_rfl) (by kernel_rfl) ?_ | refine wp_region_lex ?_
                    repeat (any_goals (first | go_big_quiet_step ((first | (go_at_call 38; exact Calls.cl (cO.out _)) | (go_at_call 61; exact Calls.cl (cC.out _)))) | (refine wpQuiet_step (fun K hK => ?_); go_simp; split <;> (rename_i hg; refine hK _ ?_; clear hK K; simp only [hg, decide_true, decide_false]))))
                    all_goals (refine wpQuiet_nil ?_; intro x)
                    go_wp2
                    go_roundw
                    case rel => exact ⟨_, by omega, by go_num, hA, (hF.cl ‹_›).rest⟩
                    case measure => simp [intOf]; omega
                  | false =>
                    first | refine wp_region_new (by kernel_rfl) (by kernel_rfl) ?_ | refine wp_region_lex ?_
                    repeat (any_goals (first | go_big_quiet_step ((first | (go_at_call 38; exact Calls.cl (cO.out _)) | (go_at_call 61; exact Calls.cl (cC.out _)))) | (refine wpQuiet_step (fun K hK => ?_); go_simp; split <;> (rename_i hg; refine hK _ ?_; clear hK K; simp only [hg, decide_true, decide_false]))))
                    all_goals (refine wpQuiet_nil ?_; intro x)
                    go_wp2
                    go_roundw
                    case rel => exact ⟨_, by omega, by go_num, hA, (hF.cl ‹_›).rest⟩
                    case measure => simp [intOf]; omega
              · have hr : Hid (decide (RbOk H up L) = false) := rb_no hn.out hlt (fun g9 => hlz (by have := ((rb_s (by omega) HT.out HS.out).1 g9).2; unfold rcS at this; rw [show rcmp g c f b = N from HN.out] at this; exact this))
                have dN : decide (0 ≤ N) = true := decide_eq_true (by omega)
                clear hlz
                rcases hou with rfl | rfl
                ·
                  first | refine wp_region_new (by kernel_rfl) (by kernel_rfl) ?_ | refine wp_region_lex ?_
                  repeat (any_goals (first | go_big_quiet_step ((first | (go_at_call 38; exact Calls.cl (cO.out _)) | (go_at_call 61; exact Calls.cl (cC.out _)))) | (refine wpQuiet_step (fun K hK => ?_); go_simp; split <;> (rename_i hg; refine hK _ ?_; clear hK K; simp only [hg, decide_true, decide_false]))))
                  all_goals (refine wpQuiet_nil ?_; intro x)
                  go_wp2
                  go_ret
                  exact ⟨by rw [hr.out]; rfl, (hF.cl ‹_›).kp⟩
                · cases up with
                  | true =>
                    first | refine wp_region_new (by kernel_rfl) (by kernel_rfl) ?_ | refine wp_region_lex ?_
                    repeat (any_goals (first | go_big_quiet_step ((first | (go_at_call 38; exact Calls.cl (cO.out _)) | (go_at_call 61; exact Calls.cl (cC.out _)))) | (refine wpQuiet_step (fun K hK => ?_); go_simp; split <;> (rename_i hg; refine hK _ ?_; clear hK K; simp only [hg, decide_true, decide_false]))))
                    all_goals (refine wpQuiet_nil ?_; intro x)
                    go_wp2
                    go_ret
                    exact ⟨by rw [hr.out]; rfl, (hF.cl ‹_›).kp⟩
                  | false =>
                    first | refine wp_region_new (by kernel_rfl) (by kernel_rfl) ?_ | refine wp_region_lex ?_
                    repeat (any_goals (first | go_big_quiet_step ((first | (go_at_call 38; exact Calls.cl (cO.out _)) | (go_at_call 61; exact Calls.cl (cC.out _)))) | (refine wpQuiet_step (fun K hK => ?_); go_simp; split <;> (rename_i hg; refine hK _ ?_; clear hK K; simp only [hg, decide_true, decide_false]))))
                    all_goals (refine wpQuiet_nil ?_; intro x)
                    go_wp2
                    go_ret
                    exact ⟨by rw [hr.out]; rfl, (hF.cl ‹_›).kp⟩
          · have hr : Hid (decide (RbOk H up L) = false) := rb_no hn.out hlt (fun g => hou (rb_r HS.out g).2.2)
            have cC : Hid True := trivial
            have hu : up = false := by cases up with | true => exact absurd (Or.inl rfl) hou | false => rfl
            have ho : old = false := by cases old with | true => exact absurd (Or.inr rfl) hou | false => rfl
            clear hou
            subst hu
            subst ho
            first | refine wp_region_new (by kernel_rfl) (by kernel_rfl) ?_ | refine wp_region_lex ?_
            repeat (any_goals (first | go_big_quiet_step ((first | (go_at_call 38; exact Calls.cl (cO.out _)) | (go_at_call 61; exact Calls.cl (cC.out _)))) | (refine wpQuiet_step (fun K hK => ?_); go_simp; split <;> (rename_i hg; refine hK _ ?_; clear hK K; simp only [hg, decide_true, decide_false]))))
            all_goals (refine wpQuiet_nil ?_; intro x)
            go_wp2
            go_ret
            exact ⟨by rw [hr.out]; rfl, (hF.cl ‹_›).kp⟩
        · have dx : (x != H) = true := by simp [hxH]
          have hr : Hid (decide (RbOk H up L) = false) := rb_no hn.out hlt (fun g => hxH (hh.out.symm.trans (rb_r HS.out g).2.1))
          clear hxH hh
          have cC : Hid True := trivial
          first | refine wp_region_new (by kernel_rfl) (by kernel_rfl) ?_ | refine wp_region_lex ?_
          repeat (any_goals (first | go_big_quiet_step ((first | (go_at_call 38; exact Calls.cl (cO.out _)) | (go_at_call 61; exact Calls.cl (cC.out _)))) | (refine wpQuiet_step (fun K hK => ?_); go_simp; split <;> (rename_i hg; refine hK _ ?_; clear hK K; simp only [hg, decide_true, decide_false]))))
          all_goals (refine wpQuiet_nil ?_; intro x)
          go_wp2
          go_ret
          exact ⟨by rw [hr.out]; rfl, (hF.cl ‹_›).kp⟩
      · have cO := Lib.hid (fun z : Cl wa.heap.size wa => (show Calls Tryd.prog 38 #[.agg #[.int .i64 f, .int .i64 b, .slice a1 m1 c1, .int .i64 lk, .slice a2 m2 c2]] z.W fun e w' => e = .returned (.bool false) ∧ Below z.W.heap.size z.W w' from by have := sRouteOk_any f b lk _ _ P M z.W (Rows.below i1 (hF.cl z).kp) (Rows.below i2 (hF.cl z).kp); rwa [decide_eq_false hq] at this))
        have hr : Hid (decide (RbOk H up L) = false) := rb_no hn.out hlt (fun g => hq (rb_r HS.out g).1)
        clear e0 e1 e2 e3 e4 e5 i1 i2 hq
        have cC : Hid True := trivial
        first | refine wp_region_new (by kernel_rfl) (by kernel_rfl) ?_ | refine wp_region_lex ?_
        repeat (any_goals (first | go_big_quiet_step ((first | (go_at_call 38; exact Calls.cl (cO.out _)) | (go_at_call 61; exact Calls.cl (cC.out _)))) | (refine wpQuiet_step (fun K hK => ?_); go_simp; split <;> (rename_i hg; refine hK _ ?_; clear hK K; simp only [hg, decide_true, decide_false]))))
        all_goals (refine wpQuiet_nil ?_; intro x)
        go_wp2
        go_ret
        exact ⟨by rw [hr.out]; rfl, (hF.cl ‹_›).kp⟩
    · by_cases hb : Bts H 1 5
      · have db : decide (Bts H 1 5) = true := decide_eq_true hb
        by_cases h6 : n ≤ 6
        · have d6 : decide ((n : Int) ≤ 6) = true := decide_eq_true (by omega)
          have hr : Hid (decide (RbOk H up L) = true) := rb_yes hn.out hb h6 (fun j hj => hz.out j (by omega))
          clear hb
          go_wp2_with (go_at_call 64; go_must (refine (l3House_any _ _).mono ?_); rintro e wx ⟨rfl, hbx⟩; replace hF := hF.below hbx; clear hbx o; have o := hF.own; simp only [World.size_alloc, World.size_drew, World.size_setCell, List.mem_cons, List.not_mem_nil, or_false, forall_eq_or_imp, forall_eq, At, and_true, Nat.zero_add, Nat.reduceAdd, List.set_cons_zero, List.set_cons_succ] at o)
          go_ret
          exact ⟨by rw [hr.out]; first | rfl | (simp; omega), hF.kp⟩
        · have d6 : decide ((n : Int) ≤ 6) = false := decide_eq_false (by omega)
          have hr : Hid (decide (RbOk H up L) = false) := rb_long hn.out h6
          clear hb
          go_wp2_with (go_at_call 64; go_must (refine (l3House_any _ _).mono ?_); rintro e wx ⟨rfl, hbx⟩; replace hF := hF.below hbx; clear hbx o; have o := hF.own; simp only [World.size_alloc, World.size_drew, World.size_setCell, List.mem_cons, List.not_mem_nil, or_false, forall_eq_or_imp, forall_eq, At, and_true, Nat.zero_add, Nat.reduceAdd, List.set_cons_zero, List.set_cons_succ] at o)
          go_ret
          exact ⟨by rw [hr.out]; first | rfl | (simp; omega), hF.kp⟩
      · have db : decide (Bts H 1 5) = false := decide_eq_false hb
        have hr : Hid (decide (RbOk H up L) = false) := rb_house hb
        clear hb
        go_wp2_with (go_at_call 64; go_must (refine (l3House_any _ _).mono ?_); rintro e wx ⟨rfl, hbx⟩; replace hF := hF.below hbx; clear hbx o; have o := hF.own; simp only [World.size_alloc, World.size_drew, World.size_setCell, List.mem_cons, List.not_mem_nil, or_false, forall_eq_or_imp, forall_eq, At, and_true, Nat.zero_add, Nat.reduceAdd, List.set_cons_zero, List.set_cons_succ] at o)
        go_ret
        exact ⟨by rw [hr.out]; rfl, hF.kp⟩
end Go.Proofs.YtonojegnbcgnaaaDoor
set_option linter.unusedSimpArgs false
set_option linter.unusedVariables false
namespace Go.Proofs.YtonojegnbcgnaaaDoor
open Go.RowKit

theorem Fr.two {r : Nat} {W w : World} {x y : Nat × List Value} {L : List (Nat × List Value)} (h : Fr r W w (x :: y :: L)) : Fr r W w (y :: x :: L) := h.sub fun p hp => by
  simp only [List.mem_cons] at hp ⊢
  rcases hp with h | h | h <;> simp [h]
theorem frsh_off {w : World} {v u : Value} {n : Nat} (hf : Frsh w v u) (hv : v.ownBlock ≠ some n) (hn : n < w.heap.size) : u.ownBlock ≠ some n := fun e => by
  rcases hf with h | ⟨g, h, hg⟩
  · rw [h] at e; exact hv e
  · rw [h] at e; injection e with e; omega
/-- A path at most four long; of small houses, if it starts at one. -/
def L4h (h : Int) (P : List Int) : Prop := P.length ≤ 4 ∧ (Bts h 1 5 → L4 P)
set_option maxRecDepth 100000 in
set_option maxHeartbeats 4000000 in
theorem l92From_gen (r k : Nat) (h : Int) (w : World) (hR : Rd w r k) (hk : k ≤ 600000) :
    Calls Tryd.prog 60 #[.pointer (some ⟨r, 0, none⟩), .int .i64 h] w fun e w' => ∃ (f b lk : Int) (pv mv : Value) (P M : List Int), e = .returned (.agg #[.int .i64 f, .int .i64 b, pv, .int .i64 lk, mv]) ∧ Lies w' w.heap.size pv P ∧ Lies w' w.heap.size mv M ∧ L4h h P ∧ M.length ≤ 10 ∧ -10 ≤ lk ∧ (lk ≤ 20 ∧ SmR f b) ∧ (∃ k', k' ≤ k + 100 ∧ Rd w' r k') ∧ Kp r w w' := by
  have hr := hR.lt
  have hF := (Fr.start r w).alloc [.int .i64 0, .int .i64 0, .slice none 0 0, .int .i64 0, .slice none 0 0] 27 hr
  replace hR := hR.alloc (.cells #[.int .i64 0, .int .i64 0, .slice none 0 0, .int .i64 0, .slice none 0 0] 27)
  obtain ⟨n2, hn2⟩ : ∃ n, w.heap.size = n := ⟨_, rfl⟩
  rw [hn2] at hF hr
  go_enter Tryd.func60, Tryd.ntmps60
  go_wp2_with fail
  refine (l91Range_any r _ _ hR (by omega)).mono ?_; rintro e w1 ⟨f, b, rfl, f1, f2, f3, f4, ⟨k1, hk1, hR1⟩, hK1⟩
  have HFB : Hid (SmR f b) := ⟨by omega, by omega, by omega, by omega⟩
  clear f1 f2 f3 f4
  replace hF := (hF.call hK1).other (.cells #[.int .i64 h] 3)
  have hs1 := hK1.size
  simp only [World.size_alloc, hn2] at hs1
  have hP : Own 3 (w1.alloc (.cells #[.int .i64 h] 3)) (n2 + 1) (.slice (some ⟨w1.heap.size, 0, none⟩) 1 1) 1 encI [h] := Own.lit 3 w1 (n2 + 1) 1 encI [h] (fun _ => rfl) (by omega) (by simp)
  replace hR1 := hR1.alloc (.cells #[.int .i64 h] 3)
  obtain ⟨g1, hg1⟩ : ∃ n, w1.heap.size = n := ⟨_, rfl⟩
  rw [hg1] at hP hs1
  clear hR hK1
  go_wp2_with fail
  refine (pick_any r _ _ _ hR1 (by omega) (by omega) (by omega)).mono ?_; rintro e w3 ⟨lk, rfl, u3, l3, hR3, hK3⟩
  replace hF := hF.call hK3
  replace hP := hP.kp hK3 (by omega)
  have hs3 := hK3.size
  simp only [World.size_alloc] at hs3
  clear hR1 hK3
  go_wp2_with fail
  refine (l91Marks_any r _ _ hR3 (by omega)).mono ?_; rintro e w4 ⟨mv, M, rfl, hM, hM9, ⟨k4, hk4, hR4⟩, hK4⟩
  have hpl := hP.lt
  replace hF := hF.call hK4
  replace hP := hP.kp hK4 (by omega)
  have hs4 := hK4.size
  have hA : Apart (.slice (some ⟨g1, 0, none⟩) 1 1) mv := fun g h1 h2 => by have := hpl g h1; have := hM.ge g h2; omega
  replace hM := Own.base (B := n2 + 1) hM (by omega)
  clear hR3 hK4 hpl
  obtain ⟨o2, c2, rfl⟩ := hM.sl
  obtain ⟨m, hm⟩ : ∃ m, Hid (M.length = m) := ⟨_, rfl⟩
  rw [hm.out] at hM hM9 hA ⊢
  have hpl := hP.lt
  have hml := hM.lt
  replace hF := hF.alloc [.int .i64 f, .int .i64 b, .slice (some ⟨g1, 0, none⟩) 1 1, .int .i64 lk, .slice o2 m c2] 27 hR4.lt
  replace hR4 := hR4.alloc (.cells #[.int .i64 f, .int .i64 b, .slice (some ⟨g1, 0, none⟩) 1 1, .int .i64 lk, .slice o2 m c2] 27)
  replace hP := hP.alloc (.cells #[.int .i64 f, .int .i64 b, .slice (some ⟨g1, 0, none⟩) 1 1, .int .i64 lk, .slice o2 m c2] 27)
  replace hM := hM.alloc (.cells #[.int .i64 f, .int .i64 b, .slice (some ⟨g1, 0, none⟩) 1 1, .int .i64 lk, .slice o2 m c2] 27)
  obtain ⟨n3, hn3⟩ : ∃ n, w4.heap.size = n := ⟨_, rfl⟩
  rw [hn3] at hF hpl hml
  have hp3 : (Value.slice (some ⟨g1, 0, none⟩) 1 1).ownBlock ≠ some n3 := fun e => by have := hpl _ e; omega
  have hm3 : (Value.slice o2 m c2).ownBlock ≠ some n3 := fun e => by have := hml _ e; omega
  have hH : Hid (L4h h [h]) := ⟨by simp, fun hh => ⟨by simp, fun y hy => by rw [List.mem_singleton.1 hy]; exact hh⟩⟩
  have h32 : n2 < n3 := by omega
  clear hpl hml
  have o := hF.own; simp only [World.size_alloc, World.size_drew, World.size_setCell, List.mem_cons, List.not_mem_nil, or_false, forall_eq_or_imp, forall_eq, At, and_true, Nat.zero_add, Nat.reduceAdd, List.set_cons_zero, List.set_cons_succ] at o
  go_wp2_with fail
  refine (sRangeOk_any f b _).mono ?_; rintro e w6 ⟨rfl, hb6⟩
  obtain ⟨bo, hbo⟩ : ∃ bo, decide (ROk f b) = bo := ⟨_, rfl⟩
  rw [hbo]
  clear hbo
  replace hF := hF.below hb6
  replace hP := hP.below hb6
  replace hM := hM.below hb6
  replace hR4 := hR4.below hb6 hR4.lt
  have hs6 := hb6.size
  simp only [World.size_alloc] at hs6
  clear hb6 o
  have o := hF.own; simp only [World.size_alloc, World.size_drew, World.size_setCell, List.mem_cons, List.not_mem_nil, or_false, forall_eq_or_imp, forall_eq, At, and_true, Nat.zero_add, Nat.reduceAdd, List.set_cons_zero, List.set_cons_succ] at o
  go_upto_if 20 with (fail)
  go_cut [5] (fun s5 wx => ∃ f' b' : Int, s5 = .pointer (some ⟨n3, 0, none⟩) ∧ Hid (SmR f' b') ∧ n3 < wx.heap.size ∧ Own 3 wx (n2 + 1) (.slice (some ⟨g1, 0, none⟩) 1 1) 1 encI [h] ∧ Own 3 wx (n2 + 1) (.slice o2 m c2) 1 encI M ∧ Rd wx r k4 ∧ Fr r w wx [(n3, [.int .i64 f', .int .i64 b', (.slice (some ⟨g1, 0, none⟩) 1 1), .int .i64 lk, .slice o2 m c2]), (n2, [.int .i64 0, .int .i64 0, .slice none 0 0, .int .i64 0, .slice none 0 0])])
  case first =>
    cases bo with
    | true =>
      go_wp2_with fail
      go_meet
      case rel => exact ⟨f, b, rfl, HFB, by omega, hP, hM, hR4, hF⟩
    | false =>
      go_wp2_with fail
      go_meet
      case rel => exact ⟨0, 1, rfl, ⟨by omega, by omega, by omega, by omega⟩, by simp only [World.size_setCell]; omega, (hP.put' (E' := 3) (p := ⟨n3, 0, none⟩) hp3 _).put' (E' := 3) (p := ⟨n3, 1, none⟩) hp3 _, (hM.put' (E' := 3) (p := ⟨n3, 0, none⟩) hm3 _).put' (E' := 3) (p := ⟨n3, 1, none⟩) hm3 _, (hR4.setCell (p := ⟨n3, 0, none⟩) (by dsimp only; omega) _).setCell (p := ⟨n3, 1, none⟩) (by dsimp only; omega) _, (hF.set 0 _ (by simp) (by simp; omega)).set 1 _ (by simp) (by simp; omega)⟩
  case rest =>
    clear hF hP hM hR4 o
    obtain ⟨f', b', rfl, HS1, hs7, hP, hM, hR4, hF⟩ := hcut
    have o := hF.own; simp only [World.size_alloc, World.size_drew, World.size_setCell, List.mem_cons, List.not_mem_nil, or_false, forall_eq_or_imp, forall_eq, At, and_true, Nat.zero_add, Nat.reduceAdd, List.set_cons_zero, List.set_cons_succ] at o
    go_wp2_with fail
    refine (pick_any r _ _ _ hR4 (by omega) (by omega) (by omega)).mono ?_; rintro e w8 ⟨v8, rfl, x8, l8, hR8, hK8⟩
    replace hF := hF.call hK8
    replace hP := hP.kp hK8 (by omega)
    replace hM := hM.kp hK8 (by omega)
    have hs8 := hK8.size
    clear hK8 hR4 o
    have o := hF.own; simp only [World.size_alloc, World.size_drew, World.size_setCell, List.mem_cons, List.not_mem_nil, or_false, forall_eq_or_imp, forall_eq, At, and_true, Nat.zero_add, Nat.reduceAdd, List.set_cons_zero, List.set_cons_succ] at o
    obtain ⟨bo2, hbo2⟩ : ∃ bo, (v8 == 0) = bo := ⟨_, rfl⟩
    go_upto_if 25 with (fail)
    clear hbo2
    go_cut [5] (fun s5 wx => ∃ (f' b' : Int) (k5 : Nat), k5 ≤ k4 + 2 ∧ s5 = .pointer (some ⟨n3, 0, none⟩) ∧ Hid (SmR f' b') ∧ n3 < wx.heap.size ∧ Own 3 wx (n2 + 1) (.slice (some ⟨g1, 0, none⟩) 1 1) 1 encI [h] ∧ Own 3 wx (n2 + 1) (.slice o2 m c2) 1 encI M ∧ Rd wx r (k5) ∧ Fr r w wx [(n3, [.int .i64 f', .int .i64 b', (.slice (some ⟨g1, 0, none⟩) 1 1), .int .i64 lk, .slice o2 m c2]), (n2, [.int .i64 0, .int .i64 0, .slice none 0 0, .int .i64 0, .slice none 0 0])])
    case first =>
      cases bo2 with
      | true =>
        go_wp2_with fail
        refine (pick_any r _ _ _ hR8 (by omega) (by omega) (by omega)).mono ?_; rintro e w9 ⟨v9, rfl, x9, l9, hR9, hK9⟩
        replace hF := hF.call hK9
        replace hP := hP.kp hK9 (by omega)
        replace hM := hM.kp hK9 (by omega)
        have hs9 := hK9.size
        clear hK9 o
        have o := hF.own; simp only [World.size_alloc, World.size_drew, World.size_setCell, List.mem_cons, List.not_mem_nil, or_false, forall_eq_or_imp, forall_eq, At, and_true, Nat.zero_add, Nat.reduceAdd, List.set_cons_zero, List.set_cons_succ] at o
        have hw : IntKind.i64.wrap (32 * v9) = 32 * v9 := IntWalk.i64_in _ (by omega)
        go_wp2_with fail
        go_meet
        case rel => exact ⟨32 * v9, 3, k4 + 1 + 1, by omega, rfl, ⟨by omega, by omega, by omega, by omega⟩, by simp only [World.size_setCell]; omega, (hP.put' (E' := 3) (p := ⟨n3, 0, none⟩) hp3 _).put' (E' := 3) (p := ⟨n3, 1, none⟩) hp3 _, (hM.put' (E' := 3) (p := ⟨n3, 0, none⟩) hm3 _).put' (E' := 3) (p := ⟨n3, 1, none⟩) hm3 _, (hR9.setCell (p := ⟨n3, 0, none⟩) (by dsimp only; omega) _).setCell (p := ⟨n3, 1, none⟩) (by dsimp only; omega) _, (hF.set 0 _ (by simp) (by simp; omega)).set 1 _ (by simp) (by simp; omega)⟩
      | false =>
        go_wp2_with fail
        go_meet
        case rel => exact ⟨f', b', k4 + 1, by omega, rfl, HS1, by omega, hP, hM, hR8, hF⟩
    case rest =>
      clear hF hP hM hR8 o HS1
      obtain ⟨f', b', k5, hk5, rfl, HS1, hs9, hP, hM, hR4, hF⟩ := hcut
      have o := hF.own; simp only [World.size_alloc, World.size_drew, World.size_setCell, List.mem_cons, List.not_mem_nil, or_false, forall_eq_or_imp, forall_eq, At, and_true, Nat.zero_add, Nat.reduceAdd, List.set_cons_zero, List.set_cons_succ] at o
      go_wp2_with fail
      refine (pick_any r _ _ _ hR4 (by omega) (by omega) (by omega)).mono ?_; rintro e w10 ⟨v10, rfl, x10, l10, hR10, hK10⟩
      replace hF := hF.call hK10
      replace hP := hP.kp hK10 (by omega)
      replace hM := hM.kp hK10 (by omega)
      have hs10 := hK10.size
      obtain ⟨q0, rfl⟩ := Int.eq_ofNat_of_zero_le x10
      clear hK10 hR4 o
      go_wp2_with fail
      go_loopw [6] (fun s6 wr => ∃ (q k' : Nat) (pv : Value) (P : List Int), s6 = .int .i64 q ∧ P.length + q ≤ 1 + q0 ∧ k' + q ≤ k5 + 1 + q0 ∧ Hid (L4h h P) ∧ Apart pv (.slice o2 m c2) ∧ pv.ownBlock ≠ some n3 ∧ n3 < wr.heap.size ∧ Own 3 wr (n2 + 1) pv 1 encI P ∧ Own 3 wr (n2 + 1) (.slice o2 m c2) 1 encI M ∧ Rd wr r (k') ∧ Fr r w wr [(n3, [.int .i64 f', .int .i64 b', pv, .int .i64 lk, .slice o2 m c2]), (n2, [.int .i64 0, .int .i64 0, .slice none 0 0, .int .i64 0, .slice none 0 0])]) (fun s6 _ => (intOf s6).toNat)
      case atStart => exact ⟨q0, k5 + 1, _, [h], rfl, by simp, by omega, hH, hA, hp3, by omega, hP, hM, hR10, hF⟩
      case round =>
        clear hF hP hM hR10 hA hp3 hH
        obtain ⟨q, k', pv, P, rfl, hq, hk', hH, hA, hp3, hsz, hP, hM, hR, hF⟩ := hrel
        obtain ⟨ap, cp, rfl⟩ := hP.sl
        have o := hF.own; simp only [World.size_alloc, World.size_drew, World.size_setCell, List.mem_cons, List.not_mem_nil, or_false, forall_eq_or_imp, forall_eq, At, and_true, Nat.zero_add, Nat.reduceAdd, List.set_cons_zero, List.set_cons_succ] at o
        by_cases hlt : 0 < q
        · have hlt' : 0 < (q : Int) := by omega
          go_wp2_with fail
          refine (pick_any r _ _ _ hR (by omega) (by omega) (by omega)).mono ?_; rintro e w11 ⟨v11, rfl, x11, l11, hR11, hK11⟩
          replace hF := hF.call hK11
          replace hP := hP.kp hK11 (by omega)
          replace hM := hM.kp hK11 (by omega)
          have hs11 := hK11.size
          clear hK11 hR o
          have o := hF.own; simp only [World.size_alloc, World.size_drew, World.size_setCell, List.mem_cons, List.not_mem_nil, or_false, forall_eq_or_imp, forall_eq, At, and_true, Nat.zero_add, Nat.reduceAdd, List.set_cons_zero, List.set_cons_succ] at o
          go_wp2_with fail
          obtain ⟨h2, hh2⟩ : ∃ h : Int, 1 + v11 = h := ⟨_, rfl⟩
          rw [hh2]
          have hB : Bts h2 1 5 := by unfold Bts; omega
          clear x11 l11 hh2
          refine (l3Has_any _ _ _ _ hP.ints).mono ?_; rintro e w12 ⟨rfl, hb12⟩
          replace hR := hR11.below hb12 hR11.lt
          replace hF := hF.below hb12
          replace hP := hP.below hb12
          replace hM := hM.below hb12
          have hs12 := hb12.size
          clear hb12 o hR11
          have o := hF.own; simp only [World.size_alloc, World.size_drew, World.size_setCell, List.mem_cons, List.not_mem_nil, or_false, forall_eq_or_imp, forall_eq, At, and_true, Nat.zero_add, Nat.reduceAdd, List.set_cons_zero, List.set_cons_succ] at o
          by_cases hin : h2 ∈ P
          · have d : decide (h2 ∈ P) = true := by simp [hin]
            clear hin hB
            go_wp2_with fail
            go_roundw
            case rel => exact ⟨q - 1, k' + 1, _, P, by go_num, by omega, by omega, hH, hA, hp3, by omega, hP, hM, hR, hF⟩
            case measure => simp [intOf]; omega
          · have d : decide (h2 ∈ P) = false := by simp [hin]
            have hH2 : Hid (L4h h (P ++ [h2])) := ⟨by simp; omega, fun hh => ⟨by simp; omega, fun y hy => by
              rcases List.mem_append.1 hy with g | g
              · exact (hH.out.2 hh).2 y g
              · rw [List.mem_singleton.1 g]; exact hB⟩⟩
            clear hin hB
            have hml := hM.lt
            go_wp2_with ((at_builtin; refine wpList_app rfl _ _ 25 rfl 3 (.int .i64 0) 1 8 Tryd.underlying25 infoInt rfl (by decide) (by decide) (n2 + 1) encI _ _ rfl (hP.alloc _) (h2) ⟨_, 0, none⟩ 1 rfl rfl (cells_new _ _ _) (by simp [encI, Value.oneCell']) (by omega) (by simp only [World.size_alloc]; omega) ?_; intro v' wx hO1 hg1 hb1 hf1; (obtain ⟨aq, cq, rfl⟩ := hO1.sl; obtain ⟨nq, hnq⟩ : ∃ nq, Hid ((P ++ [h2]).length = nq) := ⟨_, rfl⟩; rw [hnq.out] at hO1 hf1 ⊢; have hsz9 := hb1.size; simp only [World.size_alloc] at hsz9; replace hR := (hR.alloc _).below hb1 (by omega); replace hF := Fr.grown (hF.other _) hg1 (fun g hg => by have := hP.ge g hg; omega) (fun p hp e => by have := hP.ge _ e; simp only [List.mem_cons, List.not_mem_nil, or_false] at hp; rcases hp with rfl | rfl; exact hp3 e; simp at this <;> omega); replace hM := (hM.alloc _).grown hg1 hA.symm; replace hA := Apart.frsh' hA hf1 (fun g hg => by have := hml g hg; simp only [World.size_alloc]; omega); replace hp3 := frsh_off hf1 hp3 (by simp only [World.size_alloc]; omega); clear hg1 hb1 hf1 o; have o := hF.own; simp only [World.size_alloc, World.size_drew, World.size_setCell, List.mem_cons, List.not_mem_nil, or_false, forall_eq_or_imp, forall_eq, At, and_true, Nat.zero_add, Nat.reduceAdd, List.set_cons_zero, List.set_cons_succ] at o)))
            replace hP := hO1.put' (E' := 3) (p := ⟨n3, 2, none⟩) hp3 (.slice aq nq cq)
            replace hM := hM.put' (E' := 3) (p := ⟨n3, 2, none⟩) hm3 (.slice aq nq cq)
            replace hR := hR.setCell (p := ⟨n3, 2, none⟩) (by dsimp only; omega) (.slice aq nq cq)
            replace hF := hF.set 2 (.slice aq nq cq) (by simp) (by simp; omega)
            go_roundw
            case rel => exact ⟨q - 1, k' + 1, _, P ++ [h2], by go_num, by simp; omega, by omega, hH2, hA, hp3, by simp only [World.size_setCell]; omega, hP, hM, hR, hF⟩
            case measure => simp [intOf]; omega
        · have hlt' : ¬ 0 < (q : Int) := by omega
          have hP9 : Rw wr n2 n3 (.slice ap P.length cp) P := ⟨hP.it, fun g hg => by
            have := hP.ge g hg
            exact ⟨by omega, fun e => hp3 (by rw [hg, e])⟩, hP.lt⟩
          have hM9' : Rw wr n2 n3 (.slice o2 m c2) M := ⟨hM.it, fun g hg => by
            have := hM.ge g hg
            exact ⟨by omega, fun e => hm3 (by rw [hg, e])⟩, hM.lt⟩
          go_wp2_with fail
          obtain ⟨wz, hwz, e1, e2, e3, e4⟩ := endR (u0 := .int .i64 f') (u1 := .int .i64 b') (u3 := .int .i64 lk) hF.rest hR hP9 hM9' hr
          rw [← hwz]
          clear hwz
          have o := e1.own; simp only [World.size_alloc, World.size_drew, World.size_setCell, List.mem_cons, List.not_mem_nil, or_false, forall_eq_or_imp, forall_eq, At, and_true, Nat.zero_add, Nat.reduceAdd, List.set_cons_zero, List.set_cons_succ] at o
          refine bodyPost_ret (v := .agg #[.int .i64 f', .int .i64 b', .slice ap P.length cp, .int .i64 lk, .slice o2 m c2]) ?_ rfl ?_
          · simp [results, Tryd.results60, go_sem, o]
          · clear o
            exact ⟨f', b', lk, (.slice ap P.length cp), (.slice o2 m c2), rfl, P, by first | exact e3 | (rw [hn2]; exact e3), M, by first | exact e4 | (rw [hn2]; exact e4), hH.out, by have := hm.out; omega, by omega, ⟨by omega, HS1.out⟩, ⟨k', by omega, e2⟩, e1.kp⟩
theorem l92From_any (r k : Nat) (h : Int) (w : World) (hR : Rd w r k) (hk : k ≤ 600000) (hh : Bts h 1 5) :
    Calls Tryd.prog 60 #[.pointer (some ⟨r, 0, none⟩), .int .i64 h] w fun e w' => ∃ (f b lk : Int) (pv mv : Value) (P M : List Int), e = .returned (.agg #[.int .i64 f, .int .i64 b, pv, .int .i64 lk, mv]) ∧ Lies w' w.heap.size pv P ∧ Lies w' w.heap.size mv M ∧ L4 P ∧ M.length ≤ 10 ∧ -10 ≤ lk ∧ (lk ≤ 20 ∧ SmR f b) ∧ (∃ k', k' ≤ k + 100 ∧ Rd w' r k') ∧ Kp r w w' :=
  (l92From_gen r k h w hR hk).mono fun _ _ ⟨f, b, lk, pv, mv, P, M, e1, e2, e3, e4, e5⟩ => ⟨f, b, lk, pv, mv, P, M, e1, e2, e3, e4.2 hh, e5⟩
end Go.Proofs.YtonojegnbcgnaaaDoor
set_option linter.unusedSimpArgs false
set_option linter.unusedVariables false
namespace Go.Proofs.YtonojegnbcgnaaaDoor
open Go.RowKit

theorem infoRt : (Tryd.prog.info? 27).map (fun i => (i.zero, i.size, i.bytes)) = some (some (.agg #[.int .i64 0, .int .i64 0, .slice none 0 0, .int .i64 0, .slice none 0 0]), 5, 72) := by kernel_rfl
/-- What a drawn route is at most. -/
def SmRt (s : Rt) : Prop := SmR s.1 s.2.1 ∧ -10 ≤ s.2.2.1 ∧ s.2.2.1 ≤ 20 ∧ L4 s.2.2.2.1 ∧ s.2.2.2.2.length ≤ 10
set_option maxHeartbeats 2000000 in
theorem l91Routes_any (r k : Nat) (m : Nat) (w : World) (hR : Rd w r k) (hk : k ≤ 500000) (hm : m ≤ 100) :
    Calls Tryd.prog 46 #[.pointer (some ⟨r, 0, none⟩), .int .i64 m] w fun e w' => ∃ (v : Value) (L : List Rt), e = .returned v ∧ GOwn shRt 27 w' w.heap.size v L ∧ L.length ≤ m ∧ (∀ s ∈ L, SmRt s) ∧ (∃ k', k' ≤ k + 20000 ∧ Rd w' r k') ∧ Kp r w w' := by
  have hr := hR.lt
  have hF := (Fr.start r w).other (.cells #[] 27)
  have hO : GOwn shRt 27 (w.alloc (.cells #[] 27)) w.heap.size (.slice (some ⟨w.heap.size, 0, none⟩) 0 0) [] := GOwn.made _ _ _ (Nat.le_refl _)
  replace hR := hR.alloc (.cells #[] 27)
  have hm1 : IntKind.i64.wrap ((m : Int) + 1) = (m : Int) + 1 := IntWalk.i64_in _ (by omega)
  go_enter Tryd.func46, Tryd.ntmps46
  go_wp2_with fail
  refine (pick_any r _ _ _ hR (by omega) (by omega) (by omega)).mono ?_; rintro e w1 ⟨v1, rfl, u1, l1, hR1, hK1⟩
  obtain ⟨n1, rfl⟩ := Int.eq_ofNat_of_zero_le u1
  replace hF := hF.call hK1
  replace hO := hO.kp hK1 hr
  have hs1 := hK1.size
  simp only [World.size_alloc] at hs1
  clear hK1 hR
  go_wp2_with fail
  go_loopw [5, 6] (fun s5 s6 wr => ∃ (n k' : Nat) (L : List Rt), s6 = .int .i64 (n : Int) ∧ n ≤ n1 ∧ L.length + n ≤ n1 ∧ k' + n * 100 ≤ k + 1 + n1 * 100 ∧ Hid (∀ s ∈ L, SmRt s) ∧ GOwn shRt 27 wr w.heap.size s5 L ∧ Rd wr r k' ∧ Fr r w wr [] ∧ w.heap.size ≤ wr.heap.size) (fun _ s6 _ => (intOf s6).toNat)
  case atStart => exact ⟨n1, k + 1, [], rfl, Nat.le_refl _, by simp, by omega, fun s h => (by simp at h), hO, hR1, hF, by omega⟩
  case round =>
    clear hF hR1 hO
    obtain ⟨n, k', L, rfl, hn, hL, hk', hs, hO, hR, hF, hsz⟩ := hrel
    by_cases hlt : 0 < n
    · have hle : decide (0 < (n : Int)) = true := decide_eq_true (by omega)
      go_wp2_with fail
      refine (l91Route_any r _ _ hR (by omega)).mono ?_; rintro e wx ⟨f, b, lk, pv, mv, P, M, rfl, hP, hM, hP4, hM9, hl1, ⟨hl2, hfb⟩, ⟨k9, hk9, hRx⟩, hKx⟩
      replace hF := hF.call hKx
      have hsx := hKx.size
      have hlo := hO.lt
      obtain ⟨ds, hO1, hG⟩ := hO.kp hKx hr
      have hs2 : Hid (∀ s ∈ L ++ [(f, b, lk, P, M)], SmRt s) := fun s h => by
        rcases List.mem_append.1 h with h | h
        · exact hs.out s h
        · rw [List.mem_singleton.1 h]; exact ⟨hfb, hl1, hl2, hP4, hM9⟩
      have hrd : shRt.rd wx ⟨f, b, lk, pv, mv⟩ (f, b, lk, P, M) := ⟨⟨rfl, rfl, rfl⟩, hP.1.1, hM.1.1⟩
      obtain ⟨o1, c1, rfl, -⟩ := hP.1.1.ex
      obtain ⟨o2, c2, rfl, -⟩ := hM.1.1.ex
      have HOne := Lib.hid (shRt.one hrd)
      have hl0 := hG.1
      clear hKx hR hO
      have hsub : Hid (∀ u ∈ shRt.subs ⟨f, b, lk, .slice o1 P.length c1, .slice o2 M.length c2⟩, Apart u u5 ∧ ∀ g, u.ownBlock = some g → w.heap.size ≤ g ∧ g < (wx.alloc (.cells #[.int .i64 f, .int .i64 b, .slice o1 P.length c1, .int .i64 lk, .slice o2 M.length c2] 27)).heap.size) := fun u hu => by
        rcases List.mem_cons.1 hu with rfl | hu
        · exact ⟨fun g h1 h2 => by have := hP.2 g h1; have := hlo g h2; omega, fun g h1 => by have := hP.2 g h1; simp only [World.size_alloc]; omega⟩
        · rw [List.mem_singleton.1 hu]
          exact ⟨fun g h1 h2 => by have := hM.2 g h1; have := hlo g h2; omega, fun g h1 => by have := hM.2 g h1; simp only [World.size_alloc]; omega⟩
      have HG := Lib.hid hG
      have HRD := Lib.hid (Sh.below hrd ((Below.refl wx.heap.size wx).alloc (Nat.le_refl _) (.cells #[.int .i64 f, .int .i64 b, .slice o1 P.length c1, .int .i64 lk, .slice o2 M.length c2] 27)))
      clear hG hrd hP hM hlo
      go_wp2_with ((at_builtin; refine wpList_app rfl _ _ 34 rfl 27 (.agg #[.int .i64 0, .int .i64 0, .slice none 0 0, .int .i64 0, .slice none 0 0]) 5 72 Tryd.underlying34 infoRt rfl (by decide) (by decide) w.heap.size encRt _ _ rfl (hO1.alloc _) ((⟨f, b, lk, .slice o1 P.length c1, .slice o2 M.length c2⟩ : RtD)) ⟨_, 0, none⟩ 1 rfl rfl (cells_new _ _ _) (by simp [encRt, Value.oneCell']) (by first | omega | (simp only [List.length_append, List.length_cons, List.length_nil]; omega)) (by simp only [World.size_alloc]; omega) ?_; intro v' wx hO1 hg1 hb1 hf1; (have hO : GOwn shRt 27 wx w.heap.size v' (L ++ [(f, b, lk, P, M)]) := ⟨_, hO1, GRel.snoc HG.out (Nat.le_refl _) ((Below.refl _ _).alloc (Nat.le_refl _) _) hg1 hf1 HRD.out hsub.out⟩; have hsz9 := hb1.size; simp only [World.size_alloc] at hsz9; replace hR := (hRx.alloc _).below hb1 hr; replace hF := (hF.other _).belowB hb1 (Nat.le_refl _) (by simp); clear hO1 hg1 hb1 hf1)))
      go_roundw
      case rel => exact ⟨n - 1, k9, L ++ [(f, b, lk, P, M)], by go_num, by omega, by simp; omega, by omega, hs2, hO, hR, hF, by omega⟩
      case measure => simp [intOf]; omega
    · have hle : decide (0 < (n : Int)) = false := decide_eq_false (by omega)
      go_wp2_with fail
      go_ret
      exact ⟨_, L, rfl, hO, by omega, hs.out, ⟨k', by omega, hR⟩, hF.kp⟩
end Go.Proofs.YtonojegnbcgnaaaDoor
