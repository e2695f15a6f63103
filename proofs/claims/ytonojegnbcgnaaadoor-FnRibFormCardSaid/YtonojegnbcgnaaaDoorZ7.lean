/- Paths: impl.PathOk, PathHas both. cmp.Compare, cmp.Or. Paths compared. -/
import Derived.Test.YtonojegnbcgnaaaDoorZ6
import Derived.Test.YtonojegnbcgnaaaDoorZ3
set_option linter.unusedSimpArgs false
set_option linter.unusedVariables false
namespace Go.Proofs.YtonojegnbcgnaaaDoor
open Go.RowKit

theorem Joined.below {w w' : World} {a : Addr} {u : Value} (h : Joined w a u) (hb : Below w.heap.size w w') : Joined w' a u := by
  obtain ⟨pb, g, n, c, e, hn, h1, h2⟩ := h
  exact ⟨pb, g, n, c, e, hn, (hb.cell (World.block_lt_of_cell? _ _ h1)).trans h1, (hb.cell (World.block_lt_of_cell? _ _ h2)).trans h2⟩
theorem is_joined (u : Value) (a : Addr) (w : World) (h : Joined w a u) :
    Calls Tryd.prog 92 #[u, .iface 147 (.pointer (some a))] w fun e w' => e = .returned (.bool true) ∧ w' = w := by
  obtain ⟨pb, g, n, c, rfl, hn, h1, h2⟩ := h
  exact is_join pb g n c a w hn h1 h2
theorem iPathOk_any (v : Value) (L : List Int) (a : Addr) (w : World) (hv : Ints w v L) (hE : EPath w a) :
    Calls Tryd.prog 57 #[v] w fun e w' => e = .returned (.bool (decide (POk L))) ∧ Below w.heap.size w w' := by
  have HE := Lib.hid hE
  obtain ⟨ao, cap, rfl, -⟩ := hv.ex
  go_enter Tryd.func57, Tryd.ntmps57
  go_wp2_with fail
  refine (readTrail_any _ L a _ hv hE).mono ?_; rintro e w1 ⟨⟨hp, rfl⟩ | ⟨hp, u, rfl, hJ⟩, hb1⟩
  all_goals
    clear hE hv
    have hEa := EPath.allocd (HE.out.below hb1)
  · have d : decide (POk L) = true := decide_eq_true hp
    clear hp
    go_wp2_with (go_at_call 92; refine (is_nil _ _).mono ?_; rintro e w2 ⟨rfl, rfl⟩)
    go_ret
    exact ⟨by rw [d]; rfl, hb1.alloc hb1.size _⟩
  · have d : decide (POk L) = false := decide_eq_false hp
    have hJa := fun o => hJ.below ((Below.refl _ _).alloc (Nat.le_refl _) o)
    clear hp
    go_wp2_with (go_at_call 92; refine (is_joined _ _ _ (hJa _)).mono ?_; rintro e w2 ⟨rfl, rfl⟩)
    go_ret
    exact ⟨by rw [d]; rfl, hb1.alloc hb1.size _⟩
/-- A house is on a path. -/
def Has (L : List Int) (h : Int) : Prop := POk L ∧ h ∈ L
instance (L : List Int) (h : Int) : Decidable (Has L h) := by unfold Has; infer_instance
end Go.Proofs.YtonojegnbcgnaaaDoor
set_option linter.unusedSimpArgs false
set_option linter.unusedVariables false
namespace Go.Proofs.YtonojegnbcgnaaaDoor
open Go.RowKit

/-- Of two numbers: which is less. -/
def icmp (a b : Int) : Int := if a < b then -1 else if b < a then 1 else 0
theorem icmp_bd (a b : Int) : -1 ≤ icmp a b ∧ icmp a b ≤ 1 := by unfold icmp; split <;> (try split) <;> omega
theorem isNaN_any (a : Int) (w : World) : Calls Tryd.prog 88 #[.int .i64 a] w fun e w' => e = .returned (.bool false) ∧ w = w' := by
  go_enter Tryd.func88, Tryd.ntmps88
  go_wp2
  go_ret
  exact ⟨by simp, rfl⟩
theorem compare_any (a b : Int) (w : World) : Calls Tryd.prog 52 #[.int .i64 a, .int .i64 b] w fun e w' => e = .returned (.int .i64 (icmp a b)) ∧ w = w' := by
  rcases Int.lt_trichotomy a b with h | rfl | h
  · have e : icmp a b = -1 := by simp [icmp, h]
    rw [e]; clear e
    go_enter Tryd.func52, Tryd.ntmps52
    go_wp2_with (go_at_call 88; refine (isNaN_any _ _).mono ?_; rintro e w' ⟨rfl, rfl⟩)
    go_ret
    exact ⟨rfl, rfl⟩
  · have e : icmp a a = 0 := by simp [icmp]
    rw [e]; clear e
    go_enter Tryd.func52, Tryd.ntmps52
    go_wp2_with (go_at_call 88; refine (isNaN_any _ _).mono ?_; rintro e w' ⟨rfl, rfl⟩)
    go_ret
    exact ⟨rfl, rfl⟩
  · have e : icmp a b = 1 := by unfold icmp; rw [if_neg (by omega), if_pos h]
    have h2 : ¬ a < b := by omega
    rw [e]; clear e
    go_enter Tryd.func52, Tryd.ntmps52
    go_wp2_with (go_at_call 88; refine (isNaN_any _ _).mono ?_; rintro e w' ⟨rfl, rfl⟩)
    go_ret
    exact ⟨rfl, rfl⟩
/-- The first that is not nought. -/
def orI (zs : List Int) : Int := (zs.find? (· != 0)).getD 0
theorem orI_at (zs : List Int) : ∀ k, (∀ i, i < k → zs.getD i 0 = 0) → (k < zs.length → zs.getD k 0 ≠ 0) → orI zs = zs.getD k 0 := by
  induction zs with
  | nil => intro k _ _; simp [orI]
  | cons z zs ih =>
    intro k h0 h1
    cases k with
    | zero => have := h1 (by simp); simp at this; simp [orI, List.find?_cons, this]
    | succ k =>
      have e : z = 0 := by simpa using h0 0 (by omega)
      have := ih k (fun i hi => by simpa using h0 (i + 1) (by omega)) (fun hk => by simpa using h1 (by simpa using hk))
      simpa [orI, List.find?_cons, e] using this
theorem orI_nil : orI [] = 0 := rfl
theorem orI_cons (z : Int) (zs : List Int) : orI (z :: zs) = if z = 0 then orI zs else z := by
  by_cases h : z = 0
  · simp [orI, List.find?_cons, h]
  · have : (z != 0) = true := by simpa using h
    simp [orI, List.find?_cons, this, h]
theorem or_any (b off cap : Nat) (zs : List Int) (w : World) (hc : ∀ i : Nat, i < zs.length → w.cell? ⟨b, off + i, none⟩ = some (.int .i64 (zs.getD i 0))) (hn : zs.length ≤ 1000000) :
    Calls Tryd.prog 51 #[.slice (some ⟨b, off, none⟩) zs.length cap] w fun e w' => e = .returned (.int .i64 (orI zs)) ∧ w = w' := by
  have hm := Lib.hid (orI_at zs)
  generalize hN : zs.length = N at *
  have HN := Lib.hid hN; clear hN
  go_enter Tryd.func51, Tryd.ntmps51
  go_wp2
  go_loop [8, 5] (fun i _ => ∃ k : Nat, k ≤ N ∧ i = .int .i64 k ∧ ∀ j, j < k → zs.getD j 0 = 0) (fun i _ => N - (intOf i).toNat)
  case atStart => exact ⟨0, Nat.zero_le _, rfl, fun j hj => by omega⟩
  case round =>
    obtain ⟨k, hk, rfl, hz⟩ := hrel
    have hz' := Lib.hid hz; clear hz
    have hcell : k < N → w.cell? ⟨b, off + k, none⟩ = some (.int .i64 (zs.getD k 0)) := hc k
    clear hc
    have HD : Hid (∃ z, z = zs.getD k 0) := ⟨_, rfl⟩
    obtain ⟨z, hz⟩ := HD.out
    rw [← hz] at hcell
    have HZ := Lib.hid hz; clear hz HD
    go_wp2
    · go_ret
      have h1 : (z != 0) = true := by assumption
      have h2 : k < N := by assumption
      refine ⟨ret_int ?_, rfl⟩
      rw [hm.out k hz'.out (fun _ => by rw [← HZ.out]; simpa using h1)]; exact HZ.out
    · have h1 : (z != 0) = false := by assumption
      have h2 : k < N := by assumption
      go_round
      case rel =>
        refine ⟨k + 1, by omega, by go_num, fun j hj => ?_⟩
        by_cases e : j = k
        · rw [e, ← HZ.out]; simpa using h1
        · exact hz'.out j (by omega)
      case measure => simp [intOf]; omega
    · go_ret
      refine ⟨ret_int ?_, rfl⟩
      have h2 : ¬ k < N := by assumption
      rw [hm.out k hz'.out (fun h => by omega)]
      have := HN.out
      simp [List.getD]; rw [List.getElem?_eq_none (by omega)]; rfl
end Go.Proofs.YtonojegnbcgnaaaDoor
set_option linter.unusedSimpArgs false
set_option linter.unusedVariables false
namespace Go.Proofs.YtonojegnbcgnaaaDoor
open Go.RowKit

/-- Number by number. -/
def lex : List Int → List Int → Int
  | [], [] => 0
  | [], _ :: _ => -1
  | _ :: _, [] => 1
  | x :: L, y :: K => if icmp x y = 0 then lex L K else icmp x y
def orz (x y : Int) : Int := if x = 0 then y else x
def pcmp (L K : List Int) : Int := orz (icmp (L.length : Int) (K.length : Int)) (lex L K)
def PC (L K : List Int) : Int := if POk L ∧ POk K then pcmp L K else 0
theorem drop_at {α : Type} {L : List α} {k : Nat} {x : α} (h : L[k]? = some x) : L.drop k = x :: L.drop (k + 1) := by
  obtain ⟨hk, rfl⟩ := List.getElem?_eq_some_iff.1 h
  exact List.drop_eq_getElem_cons hk
theorem lex_step {L K : List Int} {k : Nat} {x y : Int} (hx : L[k]? = some x) (hy : K[k]? = some y) : lex (L.drop k) (K.drop k) = if icmp x y = 0 then lex (L.drop (k + 1)) (K.drop (k + 1)) else icmp x y := by
  rw [drop_at hx, drop_at hy]; rfl
theorem lex_long {L K : List Int} {k : Nat} {x : Int} (hx : L[k]? = some x) (hk : K.length ≤ k) : lex (L.drop k) (K.drop k) = 1 := by
  rw [drop_at hx, List.drop_eq_nil_of_le hk]; rfl
theorem lex_end {L K : List Int} {k : Nat} (hl : L.length ≤ k) : lex (L.drop k) (K.drop k) = if k < K.length then -1 else 0 := by
  rw [List.drop_eq_nil_of_le hl]
  by_cases h : k < K.length
  · rw [if_pos h, List.drop_eq_getElem_cons h]; rfl
  · rw [if_neg h, List.drop_eq_nil_of_le (by omega)]; rfl
theorem lex_bd : ∀ (L K : List Int), -1 ≤ lex L K ∧ lex L K ≤ 1
  | [], [] => by simp [lex]
  | [], _ :: _ => by simp [lex]
  | _ :: _, [] => by simp [lex]
  | x :: L, y :: K => by
    simp only [lex]; split
    · exact lex_bd L K
    · exact icmp_bd x y
set_option maxHeartbeats 1000000 in
theorem Compare_any (v1 v2 : Value) (L K : List Int) (w : World) (h1 : Ints w v1 L) (h2 : Ints w v2 K) :
    Calls Tryd.prog 55 #[v1, v2] w fun e w' => e = .returned (.int .i64 (lex L K)) ∧ Below w.heap.size w w' := by
  have hF := Fb.start w
  obtain ⟨n, c1, hn, hnc, hcap, hv1⟩ := h1.cases
  obtain ⟨m, c2, hm, hmc, hcap2, hv2⟩ := h2.cases
  clear h1 h2
  rcases hv1 with ⟨hn0, ao, rfl⟩ | ⟨hn0, b0, off, rfl, hc⟩
  all_goals rcases hv2 with ⟨hm0, ao2, rfl⟩ | ⟨hm0, b2, off2, rfl, hc2⟩
  all_goals
    go_enter Tryd.func55, Tryd.ntmps55
    go_wp2
    go_loopw [5, 6, 7, 8, 11] (fun s5 s6 s7 s8 s11 wr => ∃ k : Nat, k ≤ n ∧ s11 = .int .i64 k ∧ Hid (lex (L.drop k) (K.drop k) = lex L K) ∧ Fb w wr []) (fun _ _ _ _ s11 _ => n - (intOf s11).toNat)
    case atStart => exact ⟨0, Nat.zero_le _, rfl, rfl, hF⟩
    case round =>
      clear hF
      obtain ⟨k, hk, rfl, hlx, hF⟩ := hrel
      by_cases hlt : k < n
      · try (exfalso; omega)
        all_goals
          obtain ⟨x, hx⟩ := get_of hn.out hlt
          have HX := Lib.hid hx
          have g1 := hF.old (hc.out k x hx)
          clear hx
          by_cases hkm : k < m
          · try (exfalso; omega)
            all_goals
              have hge : ¬ (m : Int) ≤ (k : Int) := by omega
              obtain ⟨y, hy⟩ := get_of hm.out hkm
              have g2 := hF.old (hc2.out k y hy)
              have hst := Lib.hid (lex_step HX.out hy)
              clear hy
              obtain ⟨z, hz⟩ : ∃ z, icmp x y = z := ⟨_, rfl⟩
              by_cases h0 : z = 0
              · have hl2 : Hid (lex (L.drop (k + 1)) (K.drop (k + 1)) = lex L K) := by
                  have e := hst.out
                  rw [if_pos (hz.trans h0)] at e
                  exact e.symm.trans hlx.out
                subst h0
                go_wp2_with (go_at_call 52; refine (compare_any _ _ _).mono ?_; rintro e w' ⟨rfl, rfl⟩)
                go_roundw
                case rel => exact ⟨k + 1, by omega, by go_num, hl2, hF⟩
                case measure => simp [intOf]; omega
              · have hl2 : Hid (lex L K = z) := by
                  have e := hst.out
                  rw [if_neg (fun g => h0 (hz.symm.trans g)), hz] at e
                  exact hlx.out.symm.trans e
                have dz : (z != 0) = true := by simp [h0]
                clear h0
                go_wp2_with (go_at_call 52; refine (compare_any _ _ _).mono ?_; rintro e w' ⟨rfl, rfl⟩)
                go_ret
                exact ⟨by rw [hl2.out]; rfl, hF.kp⟩
          · have hge : (m : Int) ≤ (k : Int) := by omega
            have hl2 : Hid (lex L K = 1) := hlx.out.symm.trans (lex_long HX.out (by rw [hm.out]; omega))
            clear hkm
            go_wp2
            go_ret
            exact ⟨by rw [hl2.out]; rfl, hF.kp⟩
      · have hle := Lib.hid (lex_end (L := L) (K := K) (k := k) (by rw [hn.out]; omega))
        by_cases hkm : n < m
        · have hl2 : Hid (lex L K = -1) := hlx.out.symm.trans (hle.out.trans (if_pos (by rw [hm.out]; omega)))
          go_wp2
          go_ret
          exact ⟨by rw [hl2.out]; rfl, hF.kp⟩
        · have hl2 : Hid (lex L K = 0) := hlx.out.symm.trans (hle.out.trans (if_neg (by rw [hm.out]; omega)))
          go_wp2
          go_ret
          exact ⟨by rw [hl2.out]; rfl, hF.kp⟩
theorem or_two (x y : Int) (w : World) :
    Calls Tryd.prog 51 #[.slice (some ⟨w.heap.size, 0, none⟩) 2 2] (w.alloc (.cells #[.int .i64 x, .int .i64 y] 3)) fun e w' => e = .returned (.int .i64 (orz x y)) ∧ w' = w.alloc (.cells #[.int .i64 x, .int .i64 y] 3) := by
  refine (or_any w.heap.size 0 2 [x, y] _ ?_ (by simp)).mono ?_
  · intro i hi
    match i, hi with
    | 0, _ => simp
    | 1, _ => simp
  · rintro e w' ⟨rfl, rfl⟩
    refine ⟨?_, rfl⟩
    unfold orz
    simp only [orI_cons, orI_nil]
    by_cases hx : x = 0
    · by_cases hy : y = 0 <;> simp [hx, hy]
    · simp [hx]
set_option maxHeartbeats 1000000 in
theorem iPathCmp_any (v1 v2 : Value) (L K : List Int) (a : Addr) (w : World) (h1 : Ints w v1 L) (h2 : Ints w v2 K) (hE : EPath w a) :
    Calls Tryd.prog 53 #[v1, v2] w fun e w' => e = .returned (.int .i64 (PC L K)) ∧ Below w.heap.size w w' := by
  have hF := Fb.start w
  obtain ⟨ao, c1, rfl, -⟩ := h1.ex
  obtain ⟨ao2, c2, rfl, -⟩ := h2.ex
  go_enter Tryd.func53, Tryd.ntmps53
  go_wp2_with fail
  refine (iPathOk_any _ L a _ h1 hE).mono ?_; rintro e w1 ⟨rfl, hb1⟩
  replace hF := hF.below hb1
  replace h1 := Rows.below h1 hb1
  replace h2 := Rows.below h2 hb1
  replace hE := hE.below hb1
  clear hb1
  by_cases p1 : POk L
  · have d1 : decide (POk L) = true := by simp [p1]
    by_cases p2 : POk K
    · have d2 : decide (POk K) = true := by simp [p2]
      have hr : Hid (PC L K = pcmp L K) := by show PC L K = _; unfold PC; rw [if_pos ⟨p1, p2⟩]
      clear p1 p2
      go_wp2_with (first | (go_at_call 57; refine (iPathOk_any _ K a _ h2 hE).mono ?_; rintro e wx ⟨rfl, hbx⟩; replace hF := hF.below hbx; replace h1 := Rows.below h1 hbx; replace h2 := Rows.below h2 hbx; clear hbx) | (go_at_call 52; refine (compare_any _ _ _).mono ?_; rintro e w' ⟨rfl, rfl⟩) | (go_at_call 55; refine (Compare_any _ _ L K _ h1 h2).mono ?_; rintro e wx ⟨rfl, hbx⟩; replace hF := hF.below hbx; clear hbx) | (go_at_call 51; refine (or_two _ _ _).mono ?_; rintro e w' ⟨rfl, rfl⟩))
      go_ret
      exact ⟨by rw [hr.out]; rfl, (hF.other _).kp⟩
    · have d2 : decide (POk K) = false := by simp [p2]
      have hr : Hid (PC L K = 0) := by show PC L K = _; unfold PC; rw [if_neg (fun g => p2 g.2)]
      clear p1 p2
      go_wp2_with (go_at_call 57; refine (iPathOk_any _ K a _ h2 hE).mono ?_; rintro e wx ⟨rfl, hbx⟩; replace hF := hF.below hbx; clear hbx)
      go_ret
      exact ⟨by rw [hr.out]; rfl, hF.kp⟩
  · have d1 : decide (POk L) = false := by simp [p1]
    have hr : Hid (PC L K = 0) := by show PC L K = _; unfold PC; rw [if_neg (fun g => p1 g.1)]
    clear p1
    go_wp2_with fail
    go_ret
    exact ⟨by rw [hr.out]; rfl, hF.kp⟩
set_option maxHeartbeats 1000000 in
theorem l3Cmp_any (v1 v2 : Value) (L K : List Int) (w : World) (h1 : Ints w v1 L) (h2 : Ints w v2 K) :
    Calls Tryd.prog 108 #[v1, v2] w fun e w' => e = .returned (.int .i64 (pcmp L K)) ∧ Below w.heap.size w w' := by
  have hF := Fb.start w
  obtain ⟨n, c1, hn, hnc, hcap, hv1⟩ := h1.cases
  obtain ⟨m, c2, hm, hmc, hcap2, hv2⟩ := h2.cases
  clear h1 h2
  by_cases hnm : n = m
  · subst hnm
    have hr : Hid (pcmp L K = lex L K) := by show pcmp L K = _; unfold pcmp orz; rw [hn.out, hm.out, if_pos (by simp [icmp])]
    rcases hv1 with ⟨hn0, ao, rfl⟩ | ⟨hn0, b0, off, rfl, hc⟩
    all_goals rcases hv2 with ⟨hm0, ao2, rfl⟩ | ⟨hm0, b2, off2, rfl, hc2⟩
    all_goals try (exfalso; omega)
    all_goals
      go_enter Tryd.func108, Tryd.ntmps108
      go_wp2
      go_loopw [5] (fun s5 wr => ∃ k : Nat, k ≤ n ∧ s5 = .int .i64 k ∧ Hid (lex (L.drop k) (K.drop k) = lex L K) ∧ Fb w wr []) (fun s5 _ => n - (intOf s5).toNat)
      case atStart => exact ⟨0, Nat.zero_le _, rfl, rfl, hF⟩
      case round =>
        clear hF
        obtain ⟨k, hk, rfl, hlx, hF⟩ := hrel
        by_cases hlt : k < n
        · try (exfalso; omega)
          all_goals
            obtain ⟨p, hx⟩ := get_of hn.out hlt
            obtain ⟨q, hy⟩ := get_of hm.out hlt
            have G1 := Lib.hid (hc.out k p hx)
            have G2 := Lib.hid (hc2.out k q hy)
            have g1 := fun z : Cl wr.heap.size wr => Cl.old hF z (hc.out k p hx)
            have g2 := fun z : Cl wr.heap.size wr => Cl.old hF z (hc2.out k q hy)
            have hst := Lib.hid (lex_step hx hy)
            clear hx hy
            by_cases d1 : p < q
            · have hl2 : Hid (lex L K = -1) := by
                have e := hst.out
                have ei : icmp p q = -1 := by unfold icmp; rw [if_pos d1]
                rw [ei, if_neg (by omega)] at e
                exact hlx.out.symm.trans e
              go_wp2
              first | refine wp_region_new (by kernel_rfl) (by kernel_rfl) ?_ | refine wp_region_lex ?_
              repeat (any_goals (first | go_big_quiet_step ((fail)) | (refine wpQuiet_step (fun K hK => ?_); go_simp; split <;> (rename_i hg; refine hK _ ?_; clear hK K; simp only [hg, decide_true, decide_false]))))
              all_goals (refine wpQuiet_nil ?_; intro x)
              go_wp2
              go_ret
              exact ⟨by rw [hr.out, hl2.out]; rfl, (hF.cl x).kp⟩
            · by_cases d2 : q < p
              · have hl2 : Hid (lex L K = 1) := by
                  have e := hst.out
                  have ei : icmp p q = 1 := by unfold icmp; rw [if_neg d1, if_pos d2]
                  rw [ei, if_neg (by omega)] at e
                  exact hlx.out.symm.trans e
                go_wp2
                first | refine wp_region_new (by kernel_rfl) (by kernel_rfl) ?_ | refine wp_region_lex ?_
                repeat (any_goals (first | go_big_quiet_step ((fail)) | (refine wpQuiet_step (fun K hK => ?_); go_simp; split <;> (rename_i hg; refine hK _ ?_; clear hK K; simp only [hg, decide_true, decide_false]))))
                all_goals (refine wpQuiet_nil ?_; intro x)
                have hF := hF.cl x
                have g1 := fun z : Cl x.W.heap.size x.W => Cl.old hF z G1.out
                have g2 := fun z : Cl x.W.heap.size x.W => Cl.old hF z G2.out
                go_wp2
                first | refine wp_region_new (by kernel_rfl) (by kernel_rfl) ?_ | refine wp_region_lex ?_
                repeat (any_goals (first | go_big_quiet_step ((fail)) | (refine wpQuiet_step (fun K hK => ?_); go_simp; split <;> (rename_i hg; refine hK _ ?_; clear hK K; simp only [hg, decide_true, decide_false]))))
                all_goals (refine wpQuiet_nil ?_; intro x)
                go_wp2
                go_ret
                exact ⟨by rw [hr.out, hl2.out]; rfl, (hF.cl x).kp⟩
              · have hl2 : Hid (lex (L.drop (k + 1)) (K.drop (k + 1)) = lex L K) := by
                  have e := hst.out
                  have ei : icmp p q = 0 := by unfold icmp; rw [if_neg d1, if_neg d2]
                  rw [ei, if_pos rfl] at e
                  exact e.symm.trans hlx.out
                go_wp2
                first | refine wp_region_new (by kernel_rfl) (by kernel_rfl) ?_ | refine wp_region_lex ?_
                repeat (any_goals (first | go_big_quiet_step ((fail)) | (refine wpQuiet_step (fun K hK => ?_); go_simp; split <;> (rename_i hg; refine hK _ ?_; clear hK K; simp only [hg, decide_true, decide_false]))))
                all_goals (refine wpQuiet_nil ?_; intro x)
                have hF := hF.cl x
                have g1 := fun z : Cl x.W.heap.size x.W => Cl.old hF z G1.out
                have g2 := fun z : Cl x.W.heap.size x.W => Cl.old hF z G2.out
                go_wp2
                first | refine wp_region_new (by kernel_rfl) (by kernel_rfl) ?_ | refine wp_region_lex ?_
                repeat (any_goals (first | go_big_quiet_step ((fail)) | (refine wpQuiet_step (fun K hK => ?_); go_simp; split <;> (rename_i hg; refine hK _ ?_; clear hK K; simp only [hg, decide_true, decide_false]))))
                all_goals (refine wpQuiet_nil ?_; intro x)
                go_wp2
                go_roundw
                case rel => exact ⟨k + 1, by omega, by go_num, hl2, hF.cl x⟩
                case measure => simp [intOf]; omega
        · have hl2 : Hid (lex L K = 0) := hlx.out.symm.trans ((lex_end (by rw [hn.out]; omega)).trans (if_neg (by rw [hm.out]; omega)))
          go_wp2
          go_ret
          exact ⟨by rw [hr.out, hl2.out]; rfl, hF.kp⟩
  · have dnm : ((n : Int) != (m : Int)) = true := by simp; omega
    by_cases hlt : n < m
    · have hr : Hid (pcmp L K = -1) := by
        have ei : icmp (n : Int) (m : Int) = -1 := by unfold icmp; rw [if_pos (by omega)]
        show pcmp L K = _; unfold pcmp orz; rw [hn.out, hm.out, ei, if_neg (by omega)]
      have hl : (n : Int) < (m : Int) := by omega
      rcases hv1 with ⟨hn0, ao, rfl⟩ | ⟨hn0, b0, off, rfl, hc⟩
      all_goals rcases hv2 with ⟨hm0, ao2, rfl⟩ | ⟨hm0, b2, off2, rfl, hc2⟩
      all_goals
        go_enter Tryd.func108, Tryd.ntmps108
        go_wp2
        go_ret
        exact ⟨by rw [hr.out]; rfl, hF.kp⟩
    · have hr : Hid (pcmp L K = 1) := by
        have ei : icmp (n : Int) (m : Int) = 1 := by unfold icmp; rw [if_neg (by omega), if_pos (by omega)]
        show pcmp L K = _; unfold pcmp orz; rw [hn.out, hm.out, ei, if_neg (by omega)]
      have hl : ¬ (n : Int) < (m : Int) := by omega
      rcases hv1 with ⟨hn0, ao, rfl⟩ | ⟨hn0, b0, off, rfl, hc⟩
      all_goals rcases hv2 with ⟨hm0, ao2, rfl⟩ | ⟨hm0, b2, off2, rfl, hc2⟩
      all_goals
        go_enter Tryd.func108, Tryd.ntmps108
        go_wp2
        go_ret
        exact ⟨by rw [hr.out]; rfl, hF.kp⟩
end Go.Proofs.YtonojegnbcgnaaaDoor
