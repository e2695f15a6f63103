/- cmp.Compare, cmp.Or. Paths compared. Ranges drawn. -/
import Derived.Test.YtiocomefkckbfaaDoorZ3
import Derived.Test.YtiocomefkckbfaaDoorZ7
import Derived.Test.YtiocomefkckbfaaDoorZ1
set_option linter.unusedSimpArgs false
set_option linter.unusedVariables false
namespace Go.Proofs.YtiocomefkckbfaaDoor
open Go.RowKit

/-- Of two numbers: which is less. -/
def icmp (a b : Int) : Int := if a < b then -1 else if b < a then 1 else 0
theorem icmp_bd (a b : Int) : -1 ≤ icmp a b ∧ icmp a b ≤ 1 := by unfold icmp; split <;> (try split) <;> omega
/-- The first that is not nought. -/
def orI (zs : List Int) : Int := (zs.find? (· != 0)).getD 0
theorem orI_at (zs : List Int) : ∀ k, (∀ i, i < k → zs.getD i 0 = 0) → (k < zs.length → zs.getD k 0 ≠ 0) → orI zs = zs.getD k 0 := by
  induction zs with
  | nil => intro k _ _; simp [orI]
  | cons z zs ih =>
    intro k h0 h1
    cases k with
    | zero => have := h1 (by simp); simp at this; simp [orI, List.find?_cons, this]
    | succ k =>
      have e : z = 0 := by simpa using h0 0 (by omega)
      have := ih k (fun i hi => by simpa using h0 (i + 1) (by omega)) (fun hk => by simpa using h1 (by simpa using hk))
      simpa [orI, List.find?_cons, e] using this
theorem orI_nil : orI [] = 0 := rfl
theorem orI_cons (z : Int) (zs : List Int) : orI (z :: zs) = if z = 0 then orI zs else z := by
  by_cases h : z = 0
  · simp [orI, List.find?_cons, h]
  · have : (z != 0) = true := by simpa using h
    simp [orI, List.find?_cons, this, h]
end Go.Proofs.YtiocomefkckbfaaDoor
set_option linter.unusedSimpArgs false
set_option linter.unusedVariables false
namespace Go.Proofs.YtiocomefkckbfaaDoor
open Go.RowKit

/-- Number by number. -/
def lex : List Int → List Int → Int
  | [], [] => 0
  | [], _ :: _ => -1
  | _ :: _, [] => 1
  | x :: L, y :: K => if icmp x y = 0 then lex L K else icmp x y
def orz (x y : Int) : Int := if x = 0 then y else x
def pcmp (L K : List Int) : Int := orz (icmp (L.length : Int) (K.length : Int)) (lex L K)
def PC (L K : List Int) : Int := if POk L ∧ POk K then pcmp L K else 0
theorem drop_at {α : Type} {L : List α} {k : Nat} {x : α} (h : L[k]? = some x) : L.drop k = x :: L.drop (k + 1) := by
  obtain ⟨hk, rfl⟩ := List.getElem?_eq_some_iff.1 h
  exact List.drop_eq_getElem_cons hk
theorem lex_step {L K : List Int} {k : Nat} {x y : Int} (hx : L[k]? = some x) (hy : K[k]? = some y) : lex (L.drop k) (K.drop k) = if icmp x y = 0 then lex (L.drop (k + 1)) (K.drop (k + 1)) else icmp x y := by
  rw [drop_at hx, drop_at hy]; rfl
theorem lex_long {L K : List Int} {k : Nat} {x : Int} (hx : L[k]? = some x) (hk : K.length ≤ k) : lex (L.drop k) (K.drop k) = 1 := by
  rw [drop_at hx, List.drop_eq_nil_of_le hk]; rfl
theorem lex_end {L K : List Int} {k : Nat} (hl : L.length ≤ k) : lex (L.drop k) (K.drop k) = if k < K.length then -1 else 0 := by
  rw [List.drop_eq_nil_of_le hl]
  by_cases h : k < K.length
  · rw [if_pos h, List.drop_eq_getElem_cons h]; rfl
  · rw [if_neg h, List.drop_eq_nil_of_le (by omega)]; rfl
theorem lex_bd : ∀ (L K : List Int), -1 ≤ lex L K ∧ lex L K ≤ 1
  | [], [] => by simp [lex]
  | [], _ :: _ => by simp [lex]
  | _ :: _, [] => by simp [lex]
  | x :: L, y :: K => by
    simp only [lex]; split
    · exact lex_bd L K
    · exact icmp_bd x y
set_option maxHeartbeats 1000000 in
theorem l3Cmp_any (v1 v2 : Value) (L K : List Int) (w : World) (h1 : Ints w v1 L) (h2 : Ints w v2 K) :
    Calls Tryd.prog 58 #[v1, v2] w fun e w' => e = .returned (.int .i64 (pcmp L K)) ∧ Below w.heap.size w w' := by
  have hF := Fb.start w
  obtain ⟨n, c1, hn, hnc, hcap, hv1⟩ := h1.cases
  obtain ⟨m, c2, hm, hmc, hcap2, hv2⟩ := h2.cases
  clear h1 h2
  by_cases hnm : n = m
  · subst hnm
    have hr : Hid (pcmp L K = lex L K) := by show pcmp L K = _; unfold pcmp orz; rw [hn.out, hm.out, if_pos (by simp [icmp])]
    rcases hv1 with ⟨hn0, ao, rfl⟩ | ⟨hn0, b0, off, rfl, hc⟩
    all_goals rcases hv2 with ⟨hm0, ao2, rfl⟩ | ⟨hm0, b2, off2, rfl, hc2⟩
    all_goals try (exfalso; omega)
    all_goals
      go_enter Tryd.func58, Tryd.ntmps58
      go_wp2
      go_loopw [5] (fun s5 wr => ∃ k : Nat, k ≤ n ∧ s5 = .int .i64 k ∧ Hid (lex (L.drop k) (K.drop k) = lex L K) ∧ Fb w wr []) (fun s5 _ => n - (intOf s5).toNat)
      case atStart => exact ⟨0, Nat.zero_le _, rfl, rfl, hF⟩
      case round =>
        clear hF
        obtain ⟨k, hk, rfl, hlx, hF⟩ := hrel
        by_cases hlt : k < n
        · try (exfalso; omega)
          all_goals
            obtain ⟨p, hx⟩ := get_of hn.out hlt
            obtain ⟨q, hy⟩ := get_of hm.out hlt
            have G1 := Lib.hid (hc.out k p hx)
            have G2 := Lib.hid (hc2.out k q hy)
            have g1 := fun z : Cl wr.heap.size wr => Cl.old hF z (hc.out k p hx)
            have g2 := fun z : Cl wr.heap.size wr => Cl.old hF z (hc2.out k q hy)
            have hst := Lib.hid (lex_step hx hy)
            clear hx hy
            by_cases d1 : p < q
            · have hl2 : Hid (lex L K = -1) := by
                have e := hst.out
                have ei : icmp p q = -1 := by unfold icmp; rw [if_pos d1]
                rw [ei, if_neg (by omega)] at e
                exact hlx.out.symm.trans e
              go_wp2
              first | refine wp_region_new (by kernel_rfl) (by kernel_rfl) ?_ | refine wp_region_lex ?_
              repeat (any_goals (first | go_big_quiet_step ((fail)) | (refine wpQuiet_step (fun K hK => ?_); go_simp; split <;> (rename_i hg; refine hK _ ?_; clear hK K; simp only [hg, decide_true, decide_false]))))
              all_goals (refine wpQuiet_nil ?_; intro x)
              go_wp2
              go_ret
              exact ⟨by rw [hr.out, hl2.out]; rfl, (hF.cl x).kp⟩
            · by_cases d2 : q < p
              · have hl2 : Hid (lex L K = 1) := by
                  have e := hst.out
                  have ei : icmp p q = 1 := by unfold icmp; rw [if_neg d1, if_pos d2]
                  rw [ei, if_neg (by omega)] at e
                  exact hlx.out.symm.trans e
                go_wp2
                first | refine wp_region_new (by kernel_rfl) (by kernel_rfl) ?_ | refine wp_region_lex ?_
                repeat (any_goals (first | go_big_quiet_step ((fail)) | (refine wpQuiet_step (fun K hK => ?_); go_simp; split <;> (rename_i hg; refine hK _ ?_; clear hK K; simp only [hg, decide_true, decide_false]))))
                all_goals (refine wpQuiet_nil ?_; intro x)
                have hF := hF.cl x
                have g1 := fun z : Cl x.W.heap.size x.W => Cl.old hF z G1.out
                have g2 := fun z : Cl x.W.heap.size x.W => Cl.old hF z G2.out
                go_wp2
                first | refine wp_region_new (by kernel_rfl) (by kernel_rfl) ?_ | refine wp_region_lex ?_
                repeat (any_goals (first | go_big_quiet_step ((fail)) | (refine wpQuiet_step (fun K hK => ?_); go_simp; split <;> (rename_i hg; refine hK _ ?_; clear hK K; simp only [hg, decide_true, decide_false]))))
                all_goals (refine wpQuiet_nil ?_; intro x)
                go_wp2
                go_ret
                exact ⟨by rw [hr.out, hl2.out]; rfl, (hF.cl x).kp⟩
              · have hl2 : Hid (lex (L.drop (k + 1)) (K.drop (k + 1)) = lex L K) := by
                  have e := hst.out
                  have ei : icmp p q = 0 := by unfold icmp; rw [if_neg d1, if_neg d2]
                  rw [ei, if_pos rfl] at e
                  exact e.symm.trans hlx.out
                go_wp2
                first | refine wp_region_new (by kernel_rfl) (by kernel_rfl) ?_ | refine wp_region_lex ?_
                repeat (any_goals (first | go_big_quiet_step ((fail)) | (refine wpQuiet_step (fun K hK => ?_); go_simp; split <;> (rename_i hg; refine hK _ ?_; clear hK K; simp only [hg, decide_true, decide_false]))))
                all_goals (refine wpQuiet_nil ?_; intro x)
                have hF := hF.cl x
                have g1 := fun z : Cl x.W.heap.size x.W => Cl.old hF z G1.out
                have g2 := fun z : Cl x.W.heap.size x.W => Cl.old hF z G2.out
                go_wp2
                first | refine wp_region_new (by kernel_rfl) (by kernel_rfl) ?_ | refine wp_region_lex ?_
                repeat (any_goals (first | go_big_quiet_step ((fail)) | (refine wpQuiet_step (fun K hK => ?_); go_simp; split <;> (rename_i hg; refine hK _ ?_; clear hK K; simp only [hg, decide_true, decide_false]))))
                all_goals (refine wpQuiet_nil ?_; intro x)
                go_wp2
                go_roundw
                case rel => exact ⟨k + 1, by omega, by go_num, hl2, hF.cl x⟩
                case measure => simp [intOf]; omega
        · have hl2 : Hid (lex L K = 0) := hlx.out.symm.trans ((lex_end (by rw [hn.out]; omega)).trans (if_neg (by rw [hm.out]; omega)))
          go_wp2
          go_ret
          exact ⟨by rw [hr.out, hl2.out]; rfl, hF.kp⟩
  · have dnm : ((n : Int) != (m : Int)) = true := by simp; omega
    by_cases hlt : n < m
    · have hr : Hid (pcmp L K = -1) := by
        have ei : icmp (n : Int) (m : Int) = -1 := by unfold icmp; rw [if_pos (by omega)]
        show pcmp L K = _; unfold pcmp orz; rw [hn.out, hm.out, ei, if_neg (by omega)]
      have hl : (n : Int) < (m : Int) := by omega
      rcases hv1 with ⟨hn0, ao, rfl⟩ | ⟨hn0, b0, off, rfl, hc⟩
      all_goals rcases hv2 with ⟨hm0, ao2, rfl⟩ | ⟨hm0, b2, off2, rfl, hc2⟩
      all_goals
        go_enter Tryd.func58, Tryd.ntmps58
        go_wp2
        go_ret
        exact ⟨by rw [hr.out]; rfl, hF.kp⟩
    · have hr : Hid (pcmp L K = 1) := by
        have ei : icmp (n : Int) (m : Int) = 1 := by unfold icmp; rw [if_neg (by omega), if_pos (by omega)]
        show pcmp L K = _; unfold pcmp orz; rw [hn.out, hm.out, ei, if_neg (by omega)]
      have hl : ¬ (n : Int) < (m : Int) := by omega
      rcases hv1 with ⟨hn0, ao, rfl⟩ | ⟨hn0, b0, off, rfl, hc⟩
      all_goals rcases hv2 with ⟨hm0, ao2, rfl⟩ | ⟨hm0, b2, off2, rfl, hc2⟩
      all_goals
        go_enter Tryd.func58, Tryd.ntmps58
        go_wp2
        go_ret
        exact ⟨by rw [hr.out]; rfl, hF.kp⟩
end Go.Proofs.YtiocomefkckbfaaDoor
set_option linter.unusedSimpArgs false
set_option linter.unusedVariables false
namespace Go.Proofs.YtiocomefkckbfaaDoor
open Go.RowKit

/-- 2^(8-b): how many addresses a range of b bits has. -/
def sz (b : Int) : Int := 2 ^ (8 - b).toNat
theorem sz_pos (b : Int) : 1 ≤ sz b := by unfold sz; have := Int.pow_pos (n := 2) (m := (8 - b).toNat) (by omega); omega
theorem sz_le (b : Int) (h : 0 ≤ b) : sz b ≤ 256 := by
  unfold sz
  generalize hn : (8 - b).toNat = n
  have h1 : 2 ^ n ≤ 2 ^ 8 := Nat.pow_le_pow_right (by omega) (by omega)
  have h2 : ((2 ^ n : Nat) : Int) = 2 ^ n := by simp
  omega
theorem sz_step (k : Nat) (h : k < 8) : sz k / 2 = sz ((k + 1 : Nat) : Int) := by
  unfold sz
  have e : (8 - (k : Int)).toNat = (8 - ((k + 1 : Nat) : Int)).toNat + 1 := by omega
  rw [e, Int.pow_succ]; omega

theorem l1Size_any (b : Int) (w : World) (h0 : 0 ≤ b) (h8 : b ≤ 8) :
    Calls Tryd.prog 73 #[.int .i64 b] w fun e w' => e = .returned (.int .i64 (sz b)) ∧ w = w' := by
  obtain ⟨n, rfl⟩ := Int.eq_ofNat_of_zero_le h0
  go_enter Tryd.func73, Tryd.ntmps73
  go_wp2
  go_loop [3, 4] (fun s i => ∃ k : Nat, k ≤ n ∧ i = .int .i64 k ∧ s = .int .i64 (sz k)) (fun _ i => n - (intOf i).toNat)
  case atStart => exact ⟨0, Nat.zero_le _, rfl, rfl⟩
  case round =>
    obtain ⟨k, hk, rfl, rfl⟩ := hrel
    have h1 := sz_pos k
    have h2 := sz_le k (by omega)
    go_wp2
    · go_round
      case rel => exact ⟨k + 1, by omega, by go_num, by rw [sz_step k (by omega)]⟩
      case measure => simp [intOf]; omega
    · obtain rfl : k = n := by omega
      go_ret
      exact ⟨rfl, rfl⟩

set_option maxHeartbeats 1000000 in
theorem l91Range_any (r k : Nat) (w : World) (h : Rd w r k) (hk : k ≤ 900000) :
    Calls Tryd.prog 59 #[.pointer (some ⟨r, 0, none⟩)] w fun e w' => ∃ a b : Int, e = .returned (.agg #[.int .i64 a, .int .i64 b]) ∧ -10 ≤ a ∧ a ≤ 300 ∧ -10 ≤ b ∧ b ≤ 300 ∧ (∃ k', k' ≤ k + 10 ∧ Rd w' r k') ∧ Kp r w w' := by
  have hr := h.lt
  have hne0 : w.heap.size ≠ r := by omega
  have o0 := new2 w (.int .i64 0) (.int .i64 0) 25
  have h' := h.alloc (.cells #[.int .i64 0, .int .i64 0] 25)
  go_enter Tryd.func59, Tryd.ntmps59
  go_wp2_with fail
  refine (pick_any r _ _ _ (h') (by omega) (by omega) (by omega)).mono ?_; rintro e w1 ⟨v1, rfl, u1, l1, hR1, hK1⟩
  have hs1 := hK1.size
  try simp only [World.size_alloc, World.size_setCell, World.size_drew] at hs1
  replace o0 := hK1.blk2 o0 hne0
  go_wp2_with fail
  refine (pick_any r _ _ _ (hR1) (by omega) (by omega) (by omega)).mono ?_; rintro e w2 ⟨v2, rfl, u2, l2, hR2, hK2⟩
  have hs2 := hK2.size
  try simp only [World.size_alloc, World.size_setCell, World.size_drew] at hs2
  replace o0 := hK2.blk2 o0 hne0
  go_wp2_with fail
  refine (pick_any r _ _ _ (hR2) (by omega) (by omega) (by omega)).mono ?_; rintro e w3 ⟨v3, rfl, u3, l3, hR3, hK3⟩
  have hs3 := hK3.size
  try simp only [World.size_alloc, World.size_setCell, World.size_drew] at hs3
  replace o0 := hK3.blk2 o0 hne0
  have hlt3 := hR3.lt
  have c3 : (w3.alloc (.cells #[.int .i64 v1, .int .i64 (1 + v2), .int .i64 (2 + v3)] 3)).cell? ⟨w3.heap.size, 0, none⟩ = some (.int .i64 v1) ∧ (w3.alloc (.cells #[.int .i64 v1, .int .i64 (1 + v2), .int .i64 (2 + v3)] 3)).cell? ⟨w3.heap.size, 1, none⟩ = some (.int .i64 (1 + v2)) ∧ (w3.alloc (.cells #[.int .i64 v1, .int .i64 (1 + v2), .int .i64 (2 + v3)] 3)).cell? ⟨w3.heap.size, 2, none⟩ = some (.int .i64 (2 + v3)) := by simp
  go_wp2_with fail
  refine (pick_any r _ _ _ (hR3.alloc _) (by omega) (by omega) (by omega)).mono ?_; rintro e w4 ⟨v4, rfl, u4, l4, hR4, hK4⟩
  have hs4 := hK4.size
  try simp only [World.size_alloc, World.size_setCell, World.size_drew] at hs4
  replace o0 := (((Kp.refl r w3).alloc _).trans hK4).blk2 o0 hne0
  have hbits : ∃ b : Int, 0 ≤ b ∧ b ≤ 8 ∧ w4.cell? ⟨w3.heap.size, v4.toNat, none⟩ = some (.int .i64 b) := by
    have hne : w3.heap.size ≠ r := by omega
    have : v4 = 0 ∨ v4 = 1 ∨ v4 = 2 := by omega
    rcases this with rfl | rfl | rfl
    · exact ⟨v1, by omega, by omega, hK4.cell c3.1 hne⟩
    · exact ⟨1 + v2, by omega, by omega, hK4.cell c3.2.1 hne⟩
    · exact ⟨2 + v3, by omega, by omega, hK4.cell c3.2.2 hne⟩
  obtain ⟨b, b0, b8, hb⟩ := hbits
  clear c3
  go_wp2_with fail
  have hsz := sz_pos b
  have hlt4 := hR4.lt
  have hne4 : w4.heap.size ≠ r := by omega
  have o4 := new2 w4 (.int .i64 0) (.int .i64 b) 25
  have hR4' := (hR4.alloc (.cells #[.int .i64 0, .int .i64 b] 25)).drew
  clear hb
  go_region_with (first
    | (go_at_call 32; go_must (refine (pick_any r _ _ _ hR4' (by omega) (by omega) (by omega)).mono ?_); rintro e w5 ⟨v5, rfl, u5, l5, hR5, hK5⟩; have z1 : 0 ≤ v5 / sz b := Int.ediv_nonneg u5 (by omega); have z2 : v5 / sz b * sz b ≤ v5 := Int.ediv_mul_le _ (by omega); have z3 : 0 ≤ v5 / sz b * sz b := Int.mul_nonneg z1 (by omega); have z4 : v5 / sz b ≤ v5 := Int.ediv_le_self _ u5; replace o4 := hK5.blk2 o4 hne4; replace o0 := (((Kp.refl r w4).alloc _).drew.trans hK5).blk2 o0 hne0; have hs5 := hK5.size; simp at hs5)
    | (go_at_call 73; refine (l1Size_any _ _ (by omega) (by omega)).mono ?_; rintro e w' ⟨rfl, rfl⟩))
  all_goals
    have hx4 : r < w4.heap.size := hlt4
    have hR5' := hR5.setCell (p := ⟨w4.heap.size, 0, none⟩) hx4 (.int .i64 (v5 / sz b * sz b))
    replace o4 := put2a o4 (.int .i64 (v5 / sz b * sz b))
    replace o0 := set2 o0 ⟨w4.heap.size, 0, none⟩ (.int .i64 (v5 / sz b * sz b)) (by simp; omega)
    go_wp2_with fail
    refine (pick_any r _ _ _ (hR5') (by omega) (by omega) (by omega)).mono ?_; rintro e w6 ⟨v6, rfl, u6, l6, hR6, hK6⟩
    have hs6 := hK6.size
    try simp only [World.size_alloc, World.size_setCell, World.size_drew] at hs6
    replace o4 := hK6.blk2 o4 hne4
    replace o0 := hK6.blk2 o0 hne0
    have KA : Kp r w w6 := (by repeat (first | exact Kp.refl _ _ | assumption | apply Kp.alloc | apply Kp.drew | apply Kp.drewN | (refine Kp.setCell ?_ (Or.inl (by dsimp only; omega)) _) | (refine Kp.trans ?_ (by assumption)) | (refine Kp.of_below ?_ (by assumption))))
    clear hK1 hK2 hK3 hK4 hK5 hK6 h h' hR4' hR5 hR5'
    by_cases hv6 : v6 = 0
    · subst hv6
      go_wp2_with fail
      refine (pick_any r _ _ _ (hR6) (by omega) (by omega) (by omega)).mono ?_; rintro e w7 ⟨v7, rfl, u7, l7, hR7, hK7⟩
      have hs7 := hK7.size
      try simp only [World.size_alloc, World.size_setCell, World.size_drew] at hs7
      replace o0 := hK7.blk2 o0 hne0
      go_wp2_with fail
      refine (pick_any r _ _ _ (hR7) (by omega) (by omega) (by omega)).mono ?_; rintro e w8 ⟨v8, rfl, u8, l8, hR8, hK8⟩
      have hs8 := hK8.size
      try simp only [World.size_alloc, World.size_setCell, World.size_drew] at hs8
      replace o0 := hK8.blk2 o0 hne0
      go_wp2_with fail
      refine bodyPost_ret (v := .agg #[.int .i64 (v7 - 2), .int .i64 (v8 - 1)]) (by simp [results, Tryd.results59, go_sem, put2 o0]) rfl ⟨_, _, rfl, by omega, by omega, by omega, by omega, ⟨_, by omega, (hR8.setCell (by exact hr) _).setCell (by exact hr) _⟩, (by repeat (first | exact Kp.refl _ _ | assumption | apply Kp.alloc | apply Kp.drew | apply Kp.drewN | (refine Kp.setCell ?_ (Or.inl (by dsimp only; omega)) _) | (refine Kp.trans ?_ (by assumption)) | (refine Kp.of_below ?_ (by assumption))))⟩
    · have e6 : (v6 == 0) = false := by simp [hv6]
      go_wp2_with fail
      refine bodyPost_ret (v := .agg #[.int .i64 (v5 / sz b * sz b), .int .i64 b]) (by simp [results, Tryd.results59, go_sem, put2 o0]) rfl ⟨_, _, rfl, by omega, by omega, by omega, by omega, ⟨_, by omega, (hR6.setCell (by exact hr) _).setCell (by exact hr) _⟩, (by repeat (first | exact Kp.refl _ _ | assumption | apply Kp.alloc | apply Kp.drew | apply Kp.drewN | (refine Kp.setCell ?_ (Or.inl (by dsimp only; omega)) _) | (refine Kp.trans ?_ (by assumption)) | (refine Kp.of_below ?_ (by assumption))))⟩
end Go.Proofs.YtiocomefkckbfaaDoor
