/- Paths: impl.PathOk, PathHas both. Nets: ways are the same; what a way is. Nets: NetOk of the model. -/
import Derived.Test.YtonojegnbcgnaaaDoorZ10
import Derived.Test.YtonojegnbcgnaaaDoorZ9
import Derived.Test.YtonojegnbcgnaaaDoorZ6
set_option linter.unusedSimpArgs false
set_option linter.unusedVariables false
namespace Go.Proofs.YtonojegnbcgnaaaDoor
open Go.RowKit

theorem Joined.below {w w' : World} {a : Addr} {u : Value} (h : Joined w a u) (hb : Below w.heap.size w w') : Joined w' a u := by
  obtain ⟨pb, g, n, c, e, hn, h1, h2⟩ := h
  exact ⟨pb, g, n, c, e, hn, (hb.cell (World.block_lt_of_cell? _ _ h1)).trans h1, (hb.cell (World.block_lt_of_cell? _ _ h2)).trans h2⟩
theorem is_joined (u : Value) (a : Addr) (w : World) (h : Joined w a u) :
    Calls Tryd.prog 92 #[u, .iface 147 (.pointer (some a))] w fun e w' => e = .returned (.bool true) ∧ w' = w := by
  obtain ⟨pb, g, n, c, rfl, hn, h1, h2⟩ := h
  exact is_join pb g n c a w hn h1 h2
theorem iPathOk_any (v : Value) (L : List Int) (a : Addr) (w : World) (hv : Ints w v L) (hE : EPath w a) :
    Calls Tryd.prog 57 #[v] w fun e w' => e = .returned (.bool (decide (POk L))) ∧ Below w.heap.size w w' := by
  have HE := Lib.hid hE
  obtain ⟨ao, cap, rfl, -⟩ := hv.ex
  go_enter Tryd.func57, Tryd.ntmps57
  go_wp2_with fail
  refine (readTrail_any _ L a _ hv hE).mono ?_; rintro e w1 ⟨⟨hp, rfl⟩ | ⟨hp, u, rfl, hJ⟩, hb1⟩
  all_goals
    clear hE hv
    have hEa := EPath.allocd (HE.out.below hb1)
  · have d : decide (POk L) = true := decide_eq_true hp
    clear hp
    go_wp2_with (go_at_call 92; refine (is_nil _ _).mono ?_; rintro e w2 ⟨rfl, rfl⟩)
    go_ret
    exact ⟨by rw [d]; rfl, hb1.alloc hb1.size _⟩
  · have d : decide (POk L) = false := decide_eq_false hp
    have hJa := fun o => hJ.below ((Below.refl _ _).alloc (Nat.le_refl _) o)
    clear hp
    go_wp2_with (go_at_call 92; refine (is_joined _ _ _ (hJa _)).mono ?_; rintro e w2 ⟨rfl, rfl⟩)
    go_ret
    exact ⟨by rw [d]; rfl, hb1.alloc hb1.size _⟩
/-- A house is on a path. -/
def Has (L : List Int) (h : Int) : Prop := POk L ∧ h ∈ L
instance (L : List Int) (h : Int) : Decidable (Has L h) := by unfold Has; infer_instance
end Go.Proofs.YtonojegnbcgnaaaDoor
set_option linter.unusedSimpArgs false
set_option linter.unusedVariables false
namespace Go.Proofs.YtonojegnbcgnaaaDoor
open Go.RowKit Go.Maps Go.WideMaps

set_option maxHeartbeats 2000000 in
theorem lyWays_any (v1 v2 : Value) (L K : List (List Int)) (w : World) (h1 : GLs shI w v1 L) (h2 : GLs shI w v2 K) :
    Calls Tryd.prog 29 #[v1, v2] w fun e w' => e = .returned (.bool (decide (L = K))) ∧ Below w.heap.size w w' := by
  have hF := Fb.start w
  obtain ⟨ao, n, cap, rfl, hn, hnc, hcap⟩ := GLs.sl h1
  obtain ⟨bo, m, cap2, rfl, hm, hmc, hcap2⟩ := GLs.sl h2
  have HL := Lib.hid h1
  have HK := Lib.hid h2
  clear h1 h2
  go_enter Tryd.func29, Tryd.ntmps29
  by_cases hnm : n = m
  · subst hnm
    have d1 : ((n : Int) != (n : Int)) = false := by simp
    go_wp2
    go_loopw [5] (fun i wr => ∃ k : Nat, k ≤ n ∧ i = .int .i64 k ∧ Hid (L.take k = K.take k) ∧ Fb w wr []) (fun i _ => n - (intOf i).toNat)
    case atStart => exact ⟨0, Nat.zero_le _, rfl, by show _ = _; simp, hF⟩
    case round =>
      clear hF
      obtain ⟨k, hk, rfl, ht, hF⟩ := hrel
      by_cases hlt : k < n
      · obtain ⟨b1, p1, rfl⟩ := GLs.adr HL.out (by omega)
        obtain ⟨b2, p2, rfl⟩ := GLs.adr HK.out (by omega)
        obtain ⟨s, hs⟩ := get_of hn.out hlt
        obtain ⟨t, ht2⟩ := get_of hm.out hlt
        obtain ⟨a1, m1, c1, e1, i1, -, -, -⟩ := GLs.atI HL.out hs
        obtain ⟨a2, m2, c2, e2, i2, -, -, -⟩ := GLs.atI HK.out ht2
        obtain ⟨C, hC⟩ : ∃ C, decide (s = t) = C := ⟨_, rfl⟩
        have hCz := Lib.hid (fun z : Cl wr.heap.size wr => (show Calls Tryd.prog 32 #[.slice a1 m1 c1, .slice a2 m2 c2] z.W fun e w' => e = .returned (.bool C) ∧ Below z.W.heap.size z.W w' from by have := lyInts_any _ _ s t z.W (Rows.below i1 (hF.cl z).kp) (Rows.below i2 (hF.cl z).kp); rwa [hC] at this))
        have x1 := fun z : Cl wr.heap.size wr => Cl.old hF z e1
        have x2 := fun z : Cl wr.heap.size wr => Cl.old hF z e2
        clear e1 e2 i1 i2
        cases C with
        | true =>
          have hA := Lib.hid (tkW_eq ht.out hs ht2 (of_decide_eq_true hC))
          clear hC hs ht2
          go_wp2
          first | refine wp_region_new (by kernel_rfl) (by kernel_rfl) ?_ | refine wp_region_lex ?_
          repeat (any_goals (first | go_big_quiet_step (((go_at_call 32; exact Calls.cl (hCz.out _)))) | (refine wpQuiet_step (fun K hK => ?_); go_simp; split <;> (rename_i hg; refine hK _ ?_; clear hK K; simp only [hg, decide_true, decide_false]))))
          all_goals (refine wpQuiet_nil ?_; intro x)
          go_wp2
          go_roundw
          case rel => exact ⟨k + 1, by omega, by go_num, hA, hF.cl x⟩
          case measure => simp [intOf]; omega
        | false =>
          have hA := Lib.hid (tkW_ne hs ht2 (of_decide_eq_false hC))
          clear hC hs ht2
          go_wp2
          first | refine wp_region_new (by kernel_rfl) (by kernel_rfl) ?_ | refine wp_region_lex ?_
          repeat (any_goals (first | go_big_quiet_step (((go_at_call 32; exact Calls.cl (hCz.out _)))) | (refine wpQuiet_step (fun K hK => ?_); go_simp; split <;> (rename_i hg; refine hK _ ?_; clear hK K; simp only [hg, decide_true, decide_false]))))
          all_goals (refine wpQuiet_nil ?_; intro x)
          go_wp2
          go_ret
          exact ⟨by rw [hA.out]; rfl, (hF.cl x).kp⟩
      · have hA := Lib.hid (tkW_end ht.out hn.out hm.out (by omega))
        go_wp2
        go_ret
        exact ⟨by rw [hA.out]; rfl, hF.kp⟩
  · have d1 : ((n : Int) != (m : Int)) = true := by simp; omega
    have hA := Lib.hid (tkW_len hn.out hm.out hnm)
    clear hnm
    go_wp2
    go_ret
    exact ⟨by rw [hA.out]; rfl, hF.kp⟩
set_option maxHeartbeats 2000000 in
theorem EqualI_any (v1 v2 : Value) (L K : List Int) (w : World) (h1 : Ints w v1 L) (h2 : Ints w v2 K) :
    Calls Tryd.prog 102 #[v1, v2] w fun e w' => e = .returned (.bool (decide (L = K))) ∧ Below w.heap.size w w' := by
  have hF := Fb.start w
  obtain ⟨ao, n, cap, rfl, hn, hnc, hcap⟩ := Ints.sl h1
  obtain ⟨bo, m, cap2, rfl, hm, hmc, hcap2⟩ := Ints.sl h2
  have HL := Lib.hid h1
  have HK := Lib.hid h2
  clear h1 h2
  go_enter Tryd.func102, Tryd.ntmps102
  by_cases hnm : n = m
  · subst hnm
    have d1 : ((n : Int) != (n : Int)) = false := by simp
    go_wp2
    go_loopw [13] (fun i wr => ∃ k : Nat, k ≤ n ∧ i = .int .i64 k ∧ Hid (L.take k = K.take k) ∧ Fb w wr []) (fun i _ => n - (intOf i).toNat)
    case atStart => exact ⟨0, Nat.zero_le _, rfl, by show _ = _; simp, hF⟩
    case round =>
      clear hF
      obtain ⟨k, hk, rfl, ht, hF⟩ := hrel
      by_cases hlt : k < n
      · obtain ⟨b1, p1, rfl⟩ := Ints.some HL.out (by omega)
        obtain ⟨b2, p2, rfl⟩ := Ints.some HK.out (by omega)
        obtain ⟨s, hs⟩ := get_of hn.out hlt
        obtain ⟨t, ht2⟩ := get_of hm.out hlt
        have e1 := Ints.get HL.out hs
        have e2 := Ints.get HK.out ht2
        have x1 := fun z : Cl wr.heap.size wr => Cl.old hF z e1
        have x2 := fun z : Cl wr.heap.size wr => Cl.old hF z e2
        clear e1 e2
        by_cases hst : s = t
        · have hA := Lib.hid (tkW_eq ht.out hs ht2 hst)
          have dst : (s != t) = false := by simp [hst]
          clear hst hs ht2
          go_wp2
          first | refine wp_region_new (by kernel_rfl) (by kernel_rfl) ?_ | refine wp_region_lex ?_
          repeat (any_goals (first | go_big_quiet_step ((fail)) | (refine wpQuiet_step (fun K hK => ?_); go_simp; split <;> (rename_i hg; refine hK _ ?_; clear hK K; simp only [hg, decide_true, decide_false]))))
          all_goals (refine wpQuiet_nil ?_; intro x)
          go_wp2
          go_roundw
          case rel => exact ⟨k + 1, by omega, by go_num, hA, hF.cl x⟩
          case measure => simp [intOf]; omega
        · have hA := Lib.hid (tkW_ne hs ht2 hst)
          have dst : (s != t) = true := by simp [hst]
          clear hst hs ht2
          go_wp2
          first | refine wp_region_new (by kernel_rfl) (by kernel_rfl) ?_ | refine wp_region_lex ?_
          repeat (any_goals (first | go_big_quiet_step ((fail)) | (refine wpQuiet_step (fun K hK => ?_); go_simp; split <;> (rename_i hg; refine hK _ ?_; clear hK K; simp only [hg, decide_true, decide_false]))))
          all_goals (refine wpQuiet_nil ?_; intro x)
          go_wp2
          go_ret
          exact ⟨by rw [hA.out]; rfl, (hF.cl x).kp⟩
      · have hA := Lib.hid (tkW_end ht.out hn.out hm.out (by omega))
        go_wp2
        go_ret
        exact ⟨by rw [hA.out]; rfl, hF.kp⟩
  · have d1 : ((n : Int) != (m : Int)) = true := by simp; omega
    have hA := Lib.hid (tkW_len hn.out hm.out hnm)
    clear hnm
    go_wp2
    go_ret
    exact ⟨by rw [hA.out]; rfl, hF.kp⟩
/-- A step of a way. -/
def WStep (M : List (List Int)) (P : List Int) (i : Nat) : Prop := Bts (P.getD i 0) 1 M.length ∧ (0 < i → relof M (P.getD (i - 1) 0) (P.getD i 0) ≠ 0)
instance (M : List (List Int)) (P : List Int) (i : Nat) : Decidable (WStep M P i) := by unfold WStep; infer_instance
def LeadsP (M : List (List Int)) (home : Int) (P : List Int) (h : Int) : Prop := (POk P ∧ P.getD 0 0 = h ∧ P.getD (P.length - 1) 0 = home) ∧ ∀ i, i < P.length → WStep M P i
instance (M : List (List Int)) (home : Int) (P : List Int) (h : Int) : Decidable (LeadsP M home P h) := by unfold LeadsP; infer_instance
/-- Whether a way is one of a house. -/
def WayP (M : List (List Int)) (home : Int) (P : List Int) (h : Int) : Prop := if P = [] then h ≠ home else LeadsP M home P h ∧ (h ≠ home ∨ P.length = 1)
instance (M : List (List Int)) (home : Int) (P : List Int) (h : Int) : Decidable (WayP M home P h) := by unfold WayP; infer_instance
def NetP (M : List (List Int)) (home : Int) (W : List (List Int)) : Prop := (RelsP M ∧ Bts home 1 M.length ∧ W.length = M.length) ∧ ∀ i, i < W.length → WayP M home (W.getD i []) ((i : Int) + 1)
instance (M : List (List Int)) (home : Int) (W : List (List Int)) : Decidable (NetP M home W) := by unfold NetP; infer_instance
theorem netP_bad {M : List (List Int)} {home : Int} {W : List (List Int)} {n k : Nat} (hn : W.length = n) (hk : k < n) {P : List Int} (hP : W[k]? = some P) (h : ¬ WayP M home P ((k : Int) + 1)) : decide (NetP M home W) = false :=
  decide_eq_false fun g => h (by have := g.2 k (by omega); simpa [List.getD, hP] using this)
theorem netP_all {M : List (List Int)} {home : Int} {W : List (List Int)} {n : Nat} (hn : W.length = n) (h : ∀ i, i < n → WayP M home (W.getD i []) ((i : Int) + 1)) (h0 : RelsP M ∧ Bts home 1 M.length ∧ W.length = M.length) : decide (NetP M home W) = true :=
  decide_eq_true ⟨h0, fun i hi => h i (by omega)⟩
theorem wayP_go {M : List (List Int)} {home : Int} {W : List (List Int)} {k : Nat} {P : List Int} (h : ∀ i, i < k → WayP M home (W.getD i []) ((i : Int) + 1)) (hP : W[k]? = some P) (hp : WayP M home P ((k : Int) + 1)) : ∀ i, i < k + 1 → WayP M home (W.getD i []) ((i : Int) + 1) := fun i hi => by
  by_cases e : i = k
  · subst e; simpa [List.getD, hP] using hp
  · exact h i (by omega)
theorem wayP_home {M : List (List Int)} {home : Int} {P : List Int} (hM : RelsP M) (hh : Bts home 1 M.length) : WayP M home P home ↔ P = [home] := by
  have hM5 := hM.2.2
  unfold WayP
  constructor
  · intro h
    split at h
    · exact absurd rfl h
    · obtain ⟨⟨⟨-, h1, -⟩, -⟩, h2⟩ := h
      have hl : P.length = 1 := h2.resolve_left (fun q => q rfl)
      match P, hl with
      | [x], _ => simp at h1; rw [h1]
  · rintro rfl
    unfold Bts at hh
    rw [if_neg (by simp)]
    refine ⟨⟨⟨⟨fun x hx => by rw [List.mem_singleton.1 hx]; unfold Bts; omega, by simp⟩, rfl, rfl⟩, fun i hi => ?_⟩, Or.inr rfl⟩
    have : i = 0 := by simpa using hi
    subst this
    exact ⟨by show Bts home 1 _; unfold Bts; omega, fun q => by omega⟩
theorem wayP_other {M : List (List Int)} {home h : Int} {P : List Int} (hh : h ≠ home) : WayP M home P h ↔ P = [] ∨ (P ≠ [] ∧ LeadsP M home P h) := by
  unfold WayP
  split
  · rename_i e; exact ⟨fun _ => Or.inl e, fun _ => hh⟩
  · rename_i e; exact ⟨fun q => Or.inr ⟨e, q.1⟩, fun q => ⟨(q.resolve_left e).2, Or.inl hh⟩⟩
end Go.Proofs.YtonojegnbcgnaaaDoor
set_option linter.unusedSimpArgs false
set_option linter.unusedVariables false
namespace Go.Proofs.YtonojegnbcgnaaaDoor
open Go.RowKit Go.Maps Go.WideMaps

theorem rels_row {M : List (List Int)} (h : RelsP M) {a : Nat} (ha : a < M.length) : (M.getD a []).length = M.length := (h.1 a ha).1
theorem relof_at {M : List (List Int)} (h : RelsP M) {a b : Nat} (ha : a < M.length) (hb : b < M.length) : relof M ((a : Int) + 1) ((b : Int) + 1) = mget M a b := by
  unfold relof
  rw [if_pos ⟨h, by unfold Bts; omega, by unfold Bts; omega⟩]
  unfold mgi
  congr 1 <;> omega
theorem wstep_0 {M : List (List Int)} {P : List Int} {y : Int} (h : P[0]? = some y) : WStep M P 0 ↔ Bts y 1 M.length := by
  unfold WStep
  have : P.getD 0 0 = y := by simp [List.getD, h]
  rw [this]
  exact ⟨fun q => q.1, fun q => ⟨q, fun e => by omega⟩⟩
theorem wstep_s {M : List (List Int)} {P : List Int} {k : Nat} {x y : Int} (hk : 0 < k) (hx : P[k - 1]? = some x) (hy : P[k]? = some y) : WStep M P k ↔ Bts y 1 M.length ∧ relof M x y ≠ 0 := by
  unfold WStep
  have e1 : P.getD k 0 = y := by simp [List.getD, hy]
  have e2 : P.getD (k - 1) 0 = x := by simp [List.getD, hx]
  rw [e1, e2]
  exact ⟨fun q => ⟨q.1, q.2 hk⟩, fun q => ⟨q.1, fun _ => q.2⟩⟩
theorem wstep_b {M : List (List Int)} {P : List Int} {k : Nat} {y : Int} (hy : P[k]? = some y) (h : ¬ Bts y 1 M.length) : ¬ WStep M P k := fun q => h (by
  have := q.1
  have e1 : P.getD k 0 = y := by simp [List.getD, hy]
  rwa [e1] at this)
theorem wstep_go {M : List (List Int)} {P : List Int} {k : Nat} (h : ∀ j, j < k → WStep M P j) (hs : WStep M P k) : ∀ j, j < k + 1 → WStep M P j := fun j hj => by
  by_cases e : j = k
  · subst e; exact hs
  · exact h j (by omega)
theorem wayP_step {M : List (List Int)} {home h : Int} {P : List Int} {k n : Nat} (hn : P.length = n) (hk : k < n) (hs : ¬ WStep M P k) : decide (WayP M home P h) = false := by
  refine decide_eq_false fun q => ?_
  unfold WayP at q
  rw [if_neg (by rintro rfl; simp at hn; omega)] at q
  exact hs (q.1.2 k (by omega))
theorem wayP_iff {M : List (List Int)} {home h x y : Int} {P : List Int} {n : Nat} (hn : P.length = n) (h0 : 0 < n) (hx : P[0]? = some x) (hy : P[n - 1]? = some y) (hs : ∀ j, j < n → WStep M P j) : WayP M home P h ↔ POk P ∧ x = h ∧ y = home ∧ (h ≠ home ∨ n = 1) := by
  unfold WayP LeadsP
  rw [if_neg (by rintro rfl; simp at hn; omega)]
  have e1 : P.getD 0 0 = x := by simp [List.getD, hx]
  have e2 : P.getD (P.length - 1) 0 = y := by rw [hn]; simp [List.getD, hy]
  rw [e1, e2, hn]
  exact ⟨fun q => ⟨q.1.1.1, q.1.1.2.1, q.1.1.2.2, q.2⟩, fun q => ⟨⟨⟨q.1, q.2.1, q.2.2.1⟩, hs⟩, q.2.2.2⟩⟩
set_option maxHeartbeats 4000000 in
theorem l31Way_any (v pv : Value) (M : List (List Int)) (home h : Int) (P : List Int) (w : World) (hM : Mat w v M) (hp : Ints w pv P) (hR : RelsP M) :
    Calls Tryd.prog 74 #[v, .int .i64 home, pv, .int .i64 h] w fun e w' => e = .returned (.bool (decide (WayP M home P h))) ∧ Below w.heap.size w w' := by
  have hF := Fb.start w
  obtain ⟨ao, n, cap, rfl, hn, hnc, hcap⟩ := GLs.sl hM.gls
  obtain ⟨bo, m, cap2, rfl, hm, hmc, hcap2⟩ := Ints.sl hp
  have HR := Lib.hid hR
  have HM := Lib.hid hM
  have HP := Lib.hid hp
  clear hR hM hp
  go_enter Tryd.func74, Tryd.ntmps74
  by_cases hm0 : m = 0
  · subst hm0
    have hP0 : P = [] := List.length_eq_zero_iff.1 hm.out
    by_cases hh : h = home
    · have dh : (h != home) = false := by simp [hh]
      have hr : Hid (decide (WayP M home P h) = false) := decide_eq_false (by unfold WayP; rw [if_pos hP0]; exact fun q => q hh)
      clear hh
      go_wp2
      go_ret
      exact ⟨by rw [hr.out]; rfl, hF.kp⟩
    · have dh : (h != home) = true := by simp [hh]
      have hr : Hid (decide (WayP M home P h) = true) := decide_eq_true (by unfold WayP; rw [if_pos hP0]; exact hh)
      clear hh
      go_wp2
      go_ret
      exact ⟨by rw [hr.out]; rfl, hF.kp⟩
  · have dm : ((m : Int) == 0) = false := by rw [beq_eq_false_iff_ne]; omega
    obtain ⟨b, off, rfl⟩ := Ints.some HP.out (by omega)
    go_wp2
    go_loopw [9] (fun i wr => ∃ k : Nat, k ≤ m ∧ i = .int .i64 k ∧ Hid (∀ j, j < k → WStep M P j) ∧ Fb w wr []) (fun i _ => m - (intOf i).toNat)
    case atStart => exact ⟨0, Nat.zero_le _, rfl, fun j hj => (by omega), hF⟩
    case round =>
      clear hF
      obtain ⟨k, hk, rfl, ht, hF⟩ := hrel
      by_cases hlt : k < m
      · obtain ⟨y, hy⟩ := get_of hm.out hlt
        have HY := Lib.hid hy
        have ey := Ints.get HP.out hy
        have xy := fun z : Cl wr.heap.size wr => Cl.old hF z ey
        clear hy ey
        by_cases hb : Bts y 1 n
        · have db : Hid (∀ z : Cl wr.heap.size wr, Calls Tryd.prog 39 #[.int .i64 y, .int .i64 1, .int .i64 n] z.W fun e w' => e = .returned (.bool true) ∧ Below z.W.heap.size z.W w') := fun z => by
            have := l6In_any y 1 n z.W; rwa [decide_eq_true hb] at this
          obtain ⟨c, hc⟩ : ∃ c : Nat, y = (c : Int) + 1 := ⟨(y - 1).toNat, by unfold Bts at hb; omega⟩
          have hcn : c < n := by unfold Bts at hb; omega
          have hbl : Hid (Bts y 1 M.length) := by show Bts _ _ _; rw [hn.out]; exact hb
          clear hb
          by_cases hk0 : k = 0
          · subst hk0
            simp only [Nat.add_zero] at xy
            have hA : Hid (∀ j, j < 0 + 1 → WStep M P j) := wstep_go ht.out ((wstep_0 HY.out).2 hbl.out)
            clear hc hcn
            go_wp2
            first | refine wp_region_new (by kernel_rfl) (by kernel_rfl) ?_ | refine wp_region_lex ?_
            repeat (any_goals (first | go_big_quiet_step (((go_at_call 39; exact Calls.cl (db.out _)))) | (refine wpQuiet_step (fun K hK => ?_); go_simp; split <;> (rename_i hg; refine hK _ ?_; clear hK K; simp only [hg, decide_true, decide_false]))))
            all_goals (refine wpQuiet_nil ?_; intro x)
            go_wp2
            go_roundw
            case rel => exact ⟨1, by omega, by go_num, hA, hF.cl x⟩
            case measure => simp [intOf]; omega
          · obtain ⟨x, hx⟩ := get_of hm.out (show k - 1 < m by omega)
            have HX := Lib.hid hx
            have ex := Ints.get HP.out hx
            have xx := fun z : Cl wr.heap.size wr => Cl.old hF z ex
            have hwx := ((ht.out (k - 1) (by omega)).1)
            have e2 : P.getD (k - 1) 0 = x := by simp [List.getD, hx]
            rw [e2, hn.out] at hwx
            obtain ⟨a, ha⟩ : ∃ a : Nat, x = (a : Int) + 1 := ⟨(x - 1).toNat, by unfold Bts at hwx; omega⟩
            have han : a < n := by unfold Bts at hwx; omega
            obtain ⟨z0, hz0⟩ : ∃ z0, relof M x y = z0 := ⟨_, rfl⟩
            have dO : Hid (∀ z : Cl wr.heap.size wr, Calls Tryd.prog 105 #[.slice ao n cap, .int .i64 x, .int .i64 y] z.W fun e w' => e = .returned (.int .i64 z0) ∧ Below z.W.heap.size z.W w') := fun z => by
              have := l12Of_any (.slice ao n cap) M a c z.W (HM.out.below (hF.cl z).kp) (by rw [hn.out]; exact han) (by rw [rels_row HR.out (by rw [hn.out]; exact han), hn.out]; exact hcn)
              rwa [← relof_at HR.out (by rw [hn.out]; exact han) (by rw [hn.out]; exact hcn), ← ha, ← hc, hz0] at this
            have HZ := Lib.hid hz0
            have k1 : ((k : Int) - 1).toNat = k - 1 := by omega
            have k2 : IntKind.i64.wrap ((k : Int) - 1) = (k : Int) - 1 := IntWalk.i64_in _ (by omega)
            have k3 : (1 : Int) ≤ (k : Int) := by omega
            have k4 : (k : Int) - 1 < (m : Int) := by omega
            have k5 : decide (0 < (k : Int)) = true := decide_eq_true (by omega)
            have k6 : decide (0 < k) = true := decide_eq_true (by omega)
            have k7 : (0 : Int) ≤ (k : Int) - 1 := by omega
            clear hx ex hwx e2 ha hc hcn han hz0
            by_cases hzz : z0 = 0
            · subst hzz
              have hr : Hid (decide (WayP M home P h) = false) := wayP_step hm.out hlt (fun q => ((wstep_s (by omega) HX.out HY.out).1 q).2 HZ.out)
              go_wp2
              first | refine wp_region_new (by kernel_rfl) (by kernel_rfl) ?_ | refine wp_region_lex ?_
              repeat (any_goals (first | go_big_quiet_step ((first | (go_at_call 39; exact Calls.cl (db.out _)) | (go_at_call 105; exact Calls.cl (dO.out _)))) | (refine wpQuiet_step (fun K hK => ?_); go_simp; split <;> (rename_i hg; refine hK _ ?_; clear hK K; simp only [hg, decide_true, decide_false]))))
              all_goals (refine wpQuiet_nil ?_; intro x)
              go_wp2
              go_ret
              exact ⟨by rw [hr.out]; rfl, (hF.cl ‹_›).kp⟩
            · have dz : (z0 == 0) = false := by simp [hzz]
              have hA : Hid (∀ j, j < k + 1 → WStep M P j) := wstep_go ht.out ((wstep_s (by omega) HX.out HY.out).2 ⟨hbl.out, by rw [HZ.out]; exact hzz⟩)
              clear hzz
              go_wp2
              first | refine wp_region_new (by kernel_rfl) (by kernel_rfl) ?_ | refine wp_region_lex ?_
              repeat (any_goals (first | go_big_quiet_step ((first | (go_at_call 39; exact Calls.cl (db.out _)) | (go_at_call 105; exact Calls.cl (dO.out _)))) | (refine wpQuiet_step (fun K hK => ?_); go_simp; split <;> (rename_i hg; refine hK _ ?_; clear hK K; simp only [hg, decide_true, decide_false]))))
              all_goals (refine wpQuiet_nil ?_; intro x)
              go_wp2
              go_roundw
              case rel => exact ⟨k + 1, by omega, by go_num, hA, hF.cl ‹_›⟩
              case measure => simp [intOf]; omega
        · have db : Hid (∀ z : Cl wr.heap.size wr, Calls Tryd.prog 39 #[.int .i64 y, .int .i64 1, .int .i64 n] z.W fun e w' => e = .returned (.bool false) ∧ Below z.W.heap.size z.W w') := fun z => by
            have := l6In_any y 1 n z.W; rwa [decide_eq_false hb] at this
          have hr : Hid (decide (WayP M home P h) = false) := wayP_step hm.out hlt (wstep_b HY.out (by rw [hn.out]; exact hb))
          clear hb
          go_wp2
          first | refine wp_region_new (by kernel_rfl) (by kernel_rfl) ?_ | refine wp_region_lex ?_
          repeat (any_goals (first | go_big_quiet_step (((go_at_call 39; exact Calls.cl (db.out _)))) | (refine wpQuiet_step (fun K hK => ?_); go_simp; split <;> (rename_i hg; refine hK _ ?_; clear hK K; simp only [hg, decide_true, decide_false]))))
          all_goals (refine wpQuiet_nil ?_; intro x)
          go_wp2
          go_ret
          exact ⟨by rw [hr.out]; rfl, (hF.cl ‹_›).kp⟩
      · have hkm : k = m := by omega
        subst hkm
        obtain ⟨x, hx⟩ := get_of hm.out (show 0 < k by omega)
        obtain ⟨y, hy⟩ := get_of hm.out (show k - 1 < k by omega)
        have hi := Lib.hid (wayP_iff (home := home) (h := h) hm.out (by omega) hx hy ht.out)
        have hp := Rows.below HP.out hF.kp
        have c0 := hF.old (Ints.get HP.out hx)
        have c1 := hF.old (Ints.get HP.out hy)
        simp only [Nat.add_zero] at c0
        have k1 : ((k : Int) - 1).toNat = k - 1 := by omega
        have k2 : IntKind.i64.wrap ((k : Int) - 1) = (k : Int) - 1 := IntWalk.i64_in _ (by omega)
        have k3 : (1 : Int) ≤ (k : Int) := by omega
        have k4 : (k : Int) - 1 < (k : Int) := by omega
        have k7 : (0 : Int) ≤ (k : Int) - 1 := by omega
        have k8 : (0 : Int) < (k : Int) := by omega
        clear hx hy ht hm0
        by_cases q1 : POk P
        · have d1 : decide (POk P) = true := by simp [q1]
          by_cases q2 : x = h
          · have d2 : (x == h) = true := by simp [q2]
            by_cases q3 : y = home
            · have d3 : (y == home) = true := by simp [q3]
              by_cases q4 : h = home
              · have d4 : (h != home) = false := by simp [q4]
                by_cases q5 : k = 1
                · have d5 : ((k : Int) == 1) = true := by simp [q5]
                  have hr : Hid (decide (WayP M home P h) = true) := decide_eq_true (hi.out.2 ⟨q1, q2, q3, Or.inr q5⟩)
                  clear q1 q2 q3 q4 q5
                  go_wp2_with (go_at_call 78; go_must (refine (sPathOk_any _ P _ hp).mono ?_); rintro e wx ⟨rfl, hbx⟩; replace hF := hF.below hbx; have x0 := (hbx.cell (World.block_lt_of_cell? _ _ c0)).trans c0; have x1 := (hbx.cell (World.block_lt_of_cell? _ _ c1)).trans c1; clear hbx c0 c1)
                  go_ret
                  exact ⟨by rw [hr.out]; rfl, hF.kp⟩
                · have d5 : ((k : Int) == 1) = false := by rw [beq_eq_false_iff_ne]; omega
                  have hr : Hid (decide (WayP M home P h) = false) := decide_eq_false (fun g => by have := (hi.out.1 g).2.2.2; omega)
                  clear q1 q2 q3 q4 q5
                  go_wp2_with (go_at_call 78; go_must (refine (sPathOk_any _ P _ hp).mono ?_); rintro e wx ⟨rfl, hbx⟩; replace hF := hF.below hbx; have x0 := (hbx.cell (World.block_lt_of_cell? _ _ c0)).trans c0; have x1 := (hbx.cell (World.block_lt_of_cell? _ _ c1)).trans c1; clear hbx c0 c1)
                  go_ret
                  exact ⟨by rw [hr.out]; rfl, hF.kp⟩
              · have d4 : (h != home) = true := by simp [q4]
                have hr : Hid (decide (WayP M home P h) = true) := decide_eq_true (hi.out.2 ⟨q1, q2, q3, Or.inl q4⟩)
                clear q1 q2 q3 q4
                go_wp2_with (go_at_call 78; go_must (refine (sPathOk_any _ P _ hp).mono ?_); rintro e wx ⟨rfl, hbx⟩; replace hF := hF.below hbx; have x0 := (hbx.cell (World.block_lt_of_cell? _ _ c0)).trans c0; have x1 := (hbx.cell (World.block_lt_of_cell? _ _ c1)).trans c1; clear hbx c0 c1)
                go_ret
                exact ⟨by rw [hr.out]; rfl, hF.kp⟩
            · have d3 : (y == home) = false := by simp [q3]
              have hr : Hid (decide (WayP M home P h) = false) := decide_eq_false (fun g => q3 (hi.out.1 g).2.2.1)
              clear q1 q2 q3
              go_wp2_with (go_at_call 78; go_must (refine (sPathOk_any _ P _ hp).mono ?_); rintro e wx ⟨rfl, hbx⟩; replace hF := hF.below hbx; have x0 := (hbx.cell (World.block_lt_of_cell? _ _ c0)).trans c0; have x1 := (hbx.cell (World.block_lt_of_cell? _ _ c1)).trans c1; clear hbx c0 c1)
              go_ret
              exact ⟨by rw [hr.out]; rfl, hF.kp⟩
          · have d2 : (x == h) = false := by simp [q2]
            have hr : Hid (decide (WayP M home P h) = false) := decide_eq_false (fun g => q2 (hi.out.1 g).2.1)
            clear q1 q2
            go_wp2_with (go_at_call 78; go_must (refine (sPathOk_any _ P _ hp).mono ?_); rintro e wx ⟨rfl, hbx⟩; replace hF := hF.below hbx; have x0 := (hbx.cell (World.block_lt_of_cell? _ _ c0)).trans c0; have x1 := (hbx.cell (World.block_lt_of_cell? _ _ c1)).trans c1; clear hbx c0 c1)
            go_ret
            exact ⟨by rw [hr.out]; rfl, hF.kp⟩
        · have d1 : decide (POk P) = false := by simp [q1]
          have hr : Hid (decide (WayP M home P h) = false) := decide_eq_false (fun g => q1 (hi.out.1 g).1)
          clear q1
          go_wp2_with (go_at_call 78; go_must (refine (sPathOk_any _ P _ hp).mono ?_); rintro e wx ⟨rfl, hbx⟩; replace hF := hF.below hbx; have x0 := (hbx.cell (World.block_lt_of_cell? _ _ c0)).trans c0; have x1 := (hbx.cell (World.block_lt_of_cell? _ _ c1)).trans c1; clear hbx c0 c1)
          go_ret
          exact ⟨by rw [hr.out]; rfl, hF.kp⟩
set_option maxHeartbeats 4000000 in
theorem sNetOk_any (v u : Value) (M W : List (List Int)) (home : Int) (w : World) (hM : Mat w v M) (hW : GLs shI w u W) :
    Calls Tryd.prog 34 #[v, .int .i64 home, u] w fun e w' => e = .returned (.bool (decide (NetP M home W))) ∧ Below w.heap.size w w' := by
  have hF := Fb.start w
  obtain ⟨ao, n, cap, rfl, hn, hnc, hcap⟩ := GLs.sl hM.gls
  obtain ⟨bo, m, cap2, rfl, hm, hmc, hcap2⟩ := GLs.sl hW
  go_enter Tryd.func34, Tryd.ntmps34
  go_wp2_with fail
  refine (sRelsOk_any _ M _ hM).mono ?_; rintro e w1 ⟨rfl, hb1⟩
  replace hF := hF.below hb1
  replace hM := hM.below hb1
  replace hW := hW.below hb1
  clear hb1
  by_cases k1 : RelsP M
  · have d1 : decide (RelsP M) = true := by simp [k1]
    have K1 := Lib.hid k1
    clear k1
    go_wp2_with fail
    refine (l6In_any home 1 n _).mono ?_; rintro e w2 ⟨rfl, hb2⟩
    replace hF := hF.below hb2
    replace hM := hM.below hb2
    replace hW := hW.below hb2
    clear hb2
    by_cases k2 : Bts home 1 n
    · have d2 : decide (Bts home 1 (n : Int)) = true := by simp [k2]
      have K2 : Hid (Bts home 1 M.length) := by show Bts _ _ _; rw [hn.out]; exact k2
      clear k2
      by_cases k3 : m = n
      · subst k3
        have d3 : ((m : Int) != (m : Int)) = false := by simp
        have H0 := Lib.hid (show RelsP M ∧ Bts home 1 M.length ∧ W.length = M.length from ⟨K1.out, K2.out, hm.out.trans hn.out.symm⟩)
        have HM := Lib.hid hM
        have HW := Lib.hid hW
        have HF := Lib.hid hF.kp
        have hQ := Fb.start w2
        clear hM hW hF
        go_wp2
        go_loopw [7] (fun i wr => ∃ k : Nat, k ≤ m ∧ i = .int .i64 k ∧ Hid (∀ j, j < k → WayP M home (W.getD j []) ((j : Int) + 1)) ∧ Fb w2 wr []) (fun i _ => m - (intOf i).toNat)
        case atStart => exact ⟨0, Nat.zero_le _, rfl, fun j hj => (by omega), hQ⟩
        case round =>
          clear hQ
          obtain ⟨k, hk, rfl, ht, hQ⟩ := hrel
          by_cases hlt : k < m
          · obtain ⟨b1, p1, rfl⟩ := GLs.adr HW.out (by omega)
            obtain ⟨P, hP⟩ := get_of hm.out hlt
            obtain ⟨a1, m1, c1, e1, i1, -, -, -⟩ := GLs.atI HW.out hP
            have x1 := hQ.old e1
            have hM := HM.out.below hQ.kp
            have hp := Rows.below i1 hQ.kp
            clear e1 i1
            by_cases hq : WayP M home P ((k : Int) + 1)
            · have dq : decide (WayP M home P ((k : Int) + 1)) = true := by simp [hq]
              have hA : Hid (∀ j, j < k + 1 → WayP M home (W.getD j []) ((j : Int) + 1)) := wayP_go ht.out hP hq
              clear hq hP
              go_wp2_with fail
              refine (l31Way_any _ _ M home ((k : Int) + 1) P _ hM hp K1.out).mono ?_; rintro e w3 ⟨rfl, hb3⟩
              replace hQ := hQ.below hb3
              clear hb3 hM hp x1
              go_wp2
              go_roundw
              case rel => exact ⟨k + 1, by omega, by go_num, hA, hQ⟩
              case measure => simp [intOf]; omega
            · have dq : decide (WayP M home P ((k : Int) + 1)) = false := by simp [hq]
              have hr : Hid (decide (NetP M home W) = false) := netP_bad hm.out hlt hP hq
              clear hq hP
              go_wp2_with fail
              refine (l31Way_any _ _ M home ((k : Int) + 1) P _ hM hp K1.out).mono ?_; rintro e w3 ⟨rfl, hb3⟩
              replace hQ := hQ.below hb3
              clear hb3 hM hp x1
              go_wp2
              go_ret
              exact ⟨by rw [hr.out]; rfl, HF.out.trans (hQ.kp.mono HF.out.size)⟩
          · have hr : Hid (decide (NetP M home W) = true) := netP_all hm.out (fun i hi => ht.out i (by omega)) H0.out
            go_wp2
            go_ret
            exact ⟨by rw [hr.out]; rfl, HF.out.trans (hQ.kp.mono HF.out.size)⟩
      · have d3 : ((m : Int) != (n : Int)) = true := by simp; omega
        have hr : Hid (decide (NetP M home W) = false) := decide_eq_false (fun g => k3 (by have := g.1.2.2; rw [hm.out, hn.out] at this; exact this))
        clear k3
        go_wp2
        go_ret
        exact ⟨by rw [hr.out]; rfl, hF.kp⟩
    · have d2 : decide (Bts home 1 (n : Int)) = false := by simp [k2]
      have hr : Hid (decide (NetP M home W) = false) := decide_eq_false (fun g => k2 (by have := g.1.2.1; rwa [hn.out] at this))
      clear k2
      go_wp2
      go_ret
      exact ⟨by rw [hr.out]; rfl, hF.kp⟩
  · have d1 : decide (RelsP M) = false := by simp [k1]
    have hr : Hid (decide (NetP M home W) = false) := decide_eq_false (fun g => k1 g.1.1)
    clear k1
    go_wp2
    go_ret
    exact ⟨by rw [hr.out]; rfl, hF.kp⟩
end Go.Proofs.YtonojegnbcgnaaaDoor
