/- Ranges drawn. Ranges: are they ok. Ranges: which stands ahead. -/
import Derived.Test.YtjkfnjjkjhggfaaZ3
import Derived.Test.YtjkfnjjkjhggfaaZ7
set_option linter.unusedSimpArgs false
set_option linter.unusedVariables false
namespace Go.Proofs.Ytjkfnjjkjhggfaa
open Go.RowKit

/-- 2^(8-b): how many addresses a range of b bits has. -/
def sz (b : Int) : Int := 2 ^ (8 - b).toNat
theorem sz_pos (b : Int) : 1 ≤ sz b := by unfold sz; have := Int.pow_pos (n := 2) (m := (8 - b).toNat) (by omega); omega
theorem sz_le (b : Int) (h : 0 ≤ b) : sz b ≤ 256 := by
  unfold sz
  generalize hn : (8 - b).toNat = n
  have h1 : 2 ^ n ≤ 2 ^ 8 := Nat.pow_le_pow_right (by omega) (by omega)
  have h2 : ((2 ^ n : Nat) : Int) = 2 ^ n := by simp
  omega
theorem sz_step (k : Nat) (h : k < 8) : sz k / 2 = sz ((k + 1 : Nat) : Int) := by
  unfold sz
  have e : (8 - (k : Int)).toNat = (8 - ((k + 1 : Nat) : Int)).toNat + 1 := by omega
  rw [e, Int.pow_succ]; omega

theorem l1Size_any (b : Int) (w : World) (h0 : 0 ≤ b) (h8 : b ≤ 8) :
    Calls Try.prog 61 #[.int .i64 b] w fun e w' => e = .returned (.int .i64 (sz b)) ∧ w = w' := by
  obtain ⟨n, rfl⟩ := Int.eq_ofNat_of_zero_le h0
  go_enter Try.func61, Try.ntmps61
  go_wp2
  go_loop [3, 4] (fun s i => ∃ k : Nat, k ≤ n ∧ i = .int .i64 k ∧ s = .int .i64 (sz k)) (fun _ i => n - (intOf i).toNat)
  case atStart => exact ⟨0, Nat.zero_le _, rfl, rfl⟩
  case round =>
    obtain ⟨k, hk, rfl, rfl⟩ := hrel
    have h1 := sz_pos k
    have h2 := sz_le k (by omega)
    go_wp2
    · go_round
      case rel => exact ⟨k + 1, by omega, by go_num, by rw [sz_step k (by omega)]⟩
      case measure => simp [intOf]; omega
    · obtain rfl : k = n := by omega
      go_ret
      exact ⟨rfl, rfl⟩

set_option maxHeartbeats 1000000 in
theorem l91Range_any (r k : Nat) (w : World) (h : Rd w r k) (hk : k ≤ 900000) :
    Calls Try.prog 52 #[.pointer (some ⟨r, 0, none⟩)] w fun e w' => ∃ a b : Int, e = .returned (.agg #[.int .i64 a, .int .i64 b]) ∧ -10 ≤ a ∧ a ≤ 300 ∧ -10 ≤ b ∧ b ≤ 300 ∧ (∃ k', k' ≤ k + 10 ∧ Rd w' r k') ∧ Kp r w w' := by
  have hr := h.lt
  have hne0 : w.heap.size ≠ r := by omega
  have o0 := new2 w (.int .i64 0) (.int .i64 0) 62
  have h' := h.alloc (.cells #[.int .i64 0, .int .i64 0] 62)
  go_enter Try.func52, Try.ntmps52
  go_wp2_with fail
  refine (pick_any r _ _ _ (h') (by omega) (by omega) (by omega)).mono ?_; rintro e w1 ⟨v1, rfl, u1, l1, hR1, hK1⟩
  have hs1 := hK1.size
  try simp only [World.size_alloc, World.size_setCell, World.size_drew] at hs1
  replace o0 := hK1.blk2 o0 hne0
  go_wp2_with fail
  refine (pick_any r _ _ _ (hR1) (by omega) (by omega) (by omega)).mono ?_; rintro e w2 ⟨v2, rfl, u2, l2, hR2, hK2⟩
  have hs2 := hK2.size
  try simp only [World.size_alloc, World.size_setCell, World.size_drew] at hs2
  replace o0 := hK2.blk2 o0 hne0
  go_wp2_with fail
  refine (pick_any r _ _ _ (hR2) (by omega) (by omega) (by omega)).mono ?_; rintro e w3 ⟨v3, rfl, u3, l3, hR3, hK3⟩
  have hs3 := hK3.size
  try simp only [World.size_alloc, World.size_setCell, World.size_drew] at hs3
  replace o0 := hK3.blk2 o0 hne0
  have hlt3 := hR3.lt
  have c3 : (w3.alloc (.cells #[.int .i64 v1, .int .i64 (1 + v2), .int .i64 (2 + v3)] 3)).cell? ⟨w3.heap.size, 0, none⟩ = some (.int .i64 v1) ∧ (w3.alloc (.cells #[.int .i64 v1, .int .i64 (1 + v2), .int .i64 (2 + v3)] 3)).cell? ⟨w3.heap.size, 1, none⟩ = some (.int .i64 (1 + v2)) ∧ (w3.alloc (.cells #[.int .i64 v1, .int .i64 (1 + v2), .int .i64 (2 + v3)] 3)).cell? ⟨w3.heap.size, 2, none⟩ = some (.int .i64 (2 + v3)) := by simp
  go_wp2_with fail
  refine (pick_any r _ _ _ (hR3.alloc _) (by omega) (by omega) (by omega)).mono ?_; rintro e w4 ⟨v4, rfl, u4, l4, hR4, hK4⟩
  have hs4 := hK4.size
  try simp only [World.size_alloc, World.size_setCell, World.size_drew] at hs4
  replace o0 := (((Kp.refl r w3).alloc _).trans hK4).blk2 o0 hne0
  have hbits : ∃ b : Int, 0 ≤ b ∧ b ≤ 8 ∧ w4.cell? ⟨w3.heap.size, v4.toNat, none⟩ = some (.int .i64 b) := by
    have hne : w3.heap.size ≠ r := by omega
    have : v4 = 0 ∨ v4 = 1 ∨ v4 = 2 := by omega
    rcases this with rfl | rfl | rfl
    · exact ⟨v1, by omega, by omega, hK4.cell c3.1 hne⟩
    · exact ⟨1 + v2, by omega, by omega, hK4.cell c3.2.1 hne⟩
    · exact ⟨2 + v3, by omega, by omega, hK4.cell c3.2.2 hne⟩
  obtain ⟨b, b0, b8, hb⟩ := hbits
  clear c3
  go_wp2_with fail
  have hsz := sz_pos b
  have hlt4 := hR4.lt
  have hne4 : w4.heap.size ≠ r := by omega
  have o4 := new2 w4 (.int .i64 0) (.int .i64 b) 62
  have hR4' := (hR4.alloc (.cells #[.int .i64 0, .int .i64 b] 62)).drew
  clear hb
  go_region_with (first
    | (go_at_call 41; go_must (refine (pick_any r _ _ _ hR4' (by omega) (by omega) (by omega)).mono ?_); rintro e w5 ⟨v5, rfl, u5, l5, hR5, hK5⟩; have z1 : 0 ≤ v5 / sz b := Int.ediv_nonneg u5 (by omega); have z2 : v5 / sz b * sz b ≤ v5 := Int.ediv_mul_le _ (by omega); have z3 : 0 ≤ v5 / sz b * sz b := Int.mul_nonneg z1 (by omega); have z4 : v5 / sz b ≤ v5 := Int.ediv_le_self _ u5; replace o4 := hK5.blk2 o4 hne4; replace o0 := (((Kp.refl r w4).alloc _).drew.trans hK5).blk2 o0 hne0; have hs5 := hK5.size; simp at hs5)
    | (go_at_call 61; refine (l1Size_any _ _ (by omega) (by omega)).mono ?_; rintro e w' ⟨rfl, rfl⟩))
  all_goals
    have hx4 : r < w4.heap.size := hlt4
    have hR5' := hR5.setCell (p := ⟨w4.heap.size, 0, none⟩) hx4 (.int .i64 (v5 / sz b * sz b))
    replace o4 := put2a o4 (.int .i64 (v5 / sz b * sz b))
    replace o0 := set2 o0 ⟨w4.heap.size, 0, none⟩ (.int .i64 (v5 / sz b * sz b)) (by simp; omega)
    go_wp2_with fail
    refine (pick_any r _ _ _ (hR5') (by omega) (by omega) (by omega)).mono ?_; rintro e w6 ⟨v6, rfl, u6, l6, hR6, hK6⟩
    have hs6 := hK6.size
    try simp only [World.size_alloc, World.size_setCell, World.size_drew] at hs6
    replace o4 := hK6.blk2 o4 hne4
    replace o0 := hK6.blk2 o0 hne0
    have KA : Kp r w w6 := (by repeat (first | exact Kp.refl _ _ | assumption | apply Kp.alloc | apply Kp.drew | apply Kp.drewN | (refine Kp.setCell ?_ (Or.inl (by dsimp only; omega)) _) | (refine Kp.trans ?_ (by assumption)) | (refine Kp.of_below ?_ (by assumption))))
    clear hK1 hK2 hK3 hK4 hK5 hK6 h h' hR4' hR5 hR5'
    by_cases hv6 : v6 = 0
    · subst hv6
      go_wp2_with fail
      refine (pick_any r _ _ _ (hR6) (by omega) (by omega) (by omega)).mono ?_; rintro e w7 ⟨v7, rfl, u7, l7, hR7, hK7⟩
      have hs7 := hK7.size
      try simp only [World.size_alloc, World.size_setCell, World.size_drew] at hs7
      replace o0 := hK7.blk2 o0 hne0
      go_wp2_with fail
      refine (pick_any r _ _ _ (hR7) (by omega) (by omega) (by omega)).mono ?_; rintro e w8 ⟨v8, rfl, u8, l8, hR8, hK8⟩
      have hs8 := hK8.size
      try simp only [World.size_alloc, World.size_setCell, World.size_drew] at hs8
      replace o0 := hK8.blk2 o0 hne0
      go_wp2_with fail
      refine bodyPost_ret (v := .agg #[.int .i64 (v7 - 2), .int .i64 (v8 - 1)]) (by simp [results, Try.results52, go_sem, put2 o0]) rfl ⟨_, _, rfl, by omega, by omega, by omega, by omega, ⟨_, by omega, (hR8.setCell (by exact hr) _).setCell (by exact hr) _⟩, (by repeat (first | exact Kp.refl _ _ | assumption | apply Kp.alloc | apply Kp.drew | apply Kp.drewN | (refine Kp.setCell ?_ (Or.inl (by dsimp only; omega)) _) | (refine Kp.trans ?_ (by assumption)) | (refine Kp.of_below ?_ (by assumption))))⟩
    · have e6 : (v6 == 0) = false := by simp [hv6]
      go_wp2_with fail
      refine bodyPost_ret (v := .agg #[.int .i64 (v5 / sz b * sz b), .int .i64 b]) (by simp [results, Try.results52, go_sem, put2 o0]) rfl ⟨_, _, rfl, by omega, by omega, by omega, by omega, ⟨_, by omega, (hR6.setCell (by exact hr) _).setCell (by exact hr) _⟩, (by repeat (first | exact Kp.refl _ _ | assumption | apply Kp.alloc | apply Kp.drew | apply Kp.drewN | (refine Kp.setCell ?_ (Or.inl (by dsimp only; omega)) _) | (refine Kp.trans ?_ (by assumption)) | (refine Kp.of_below ?_ (by assumption))))⟩
end Go.Proofs.Ytjkfnjjkjhggfaa
set_option linter.unusedSimpArgs false
set_option linter.unusedVariables false
namespace Go.Proofs.Ytjkfnjjkjhggfaa
open Go.RowKit

theorem new22 (w : World) (v0 v1 u0 u1 : Value) (T T' : TypeId) : ((w.alloc (.cells #[v0, v1] T)).alloc (.cells #[u0, u1] T')).cell? ⟨w.heap.size, 0, none⟩ = some v0 ∧ ((w.alloc (.cells #[v0, v1] T)).alloc (.cells #[u0, u1] T')).cell? ⟨w.heap.size, 1, none⟩ = some v1 ∧ ((w.alloc (.cells #[v0, v1] T)).alloc (.cells #[u0, u1] T')).frozen? ⟨w.heap.size, 0, none⟩ = false ∧ ((w.alloc (.cells #[v0, v1] T)).alloc (.cells #[u0, u1] T')).frozen? ⟨w.heap.size, 1, none⟩ = false := by simp
theorem new22' (w : World) (v0 v1 u0 u1 : Value) (T T' : TypeId) : ((w.alloc (.cells #[v0, v1] T)).alloc (.cells #[u0, u1] T')).cell? ⟨w.heap.size + 1, 0, none⟩ = some u0 ∧ ((w.alloc (.cells #[v0, v1] T)).alloc (.cells #[u0, u1] T')).cell? ⟨w.heap.size + 1, 1, none⟩ = some u1 ∧ ((w.alloc (.cells #[v0, v1] T)).alloc (.cells #[u0, u1] T')).frozen? ⟨w.heap.size + 1, 0, none⟩ = false ∧ ((w.alloc (.cells #[v0, v1] T)).alloc (.cells #[u0, u1] T')).frozen? ⟨w.heap.size + 1, 1, none⟩ = false := by simp

def Adr (n : Int) : Prop := 0 ≤ n ∧ n ≤ 255
instance (n : Int) : Decidable (Adr n) := by unfold Adr; infer_instance
def ROk (f b : Int) : Prop := 0 ≤ b ∧ b ≤ 8 ∧ 0 ≤ f ∧ f ≤ 255 ∧ f % sz b = 0
instance (f b : Int) : Decidable (ROk f b) := by unfold ROk; infer_instance

theorem l1Size_new (b : Int) (w : World) (h0 : 0 ≤ b) (h8 : b ≤ 8) :
    Calls Try.prog 61 #[.int .i64 b] w fun e w' => e = .returned (.int .i64 (sz b)) ∧ Below w.heap.size w w' :=
  (l1Size_any b w h0 h8).mono fun _ _ h => ⟨h.1, h.2 ▸ Below.refl _ _⟩
theorem sRangeOk_any (f b : Int) (w : World) :
    Calls Try.prog 54 #[.agg #[.int .i64 f, .int .i64 b]] w fun e w' => e = .returned (.bool (decide (ROk f b))) ∧ Below w.heap.size w w' := by
  have hsz := sz_pos b
  go_enter Try.func54, Try.ntmps54
  go_wp2
  have c0 := fun x : Cl _ (w.alloc _) => x.c2 (new2 w (.int .i64 f) (.int .i64 b) 62)
  first | refine wp_region_new (by kernel_rfl) (by kernel_rfl) ?_ | refine wp_region_lex ?_
  repeat (any_goals (first | go_big_quiet_step ((first | (go_at_call 22; exact Calls.cl (l6In_any _ _ _ _)) | (go_at_call 61; exact Calls.cl (l1Size_new _ _ (by simp only [Bts] at *; omega) (by simp only [Bts] at *; omega))))) | (refine wpQuiet_step (fun K hK => ?_); go_simp; split <;> (rename_i hg; refine hK _ ?_; clear hK K; simp only [hg, decide_true, decide_false]))))
  all_goals (refine wpQuiet_nil ?_; intro x)
  all_goals go_wp2
  all_goals go_ret
  all_goals (refine ⟨ret_bool ?_, ((Below.refl _ _).alloc (Nat.le_refl _) _).trans (x.below.mono (by simp))⟩)
  all_goals (rw [Bool.eq_iff_iff]; simp; unfold ROk)
  all_goals (simp only [Bts] at *)
  all_goals first | omega | (rw [Int.tmod_eq_emod_of_nonneg (by omega)]; omega)
/-- The address x is in the valid range that begins at f with b bits. -/
def Cov (f b x : Int) : Prop := f ≤ x ∧ x < f + sz b
instance (f b x : Int) : Decidable (Cov f b x) := by unfold Cov; infer_instance
def RIn (f b g c : Int) : Prop := ROk f b ∧ ROk g c ∧ c ≤ b ∧ Cov g c f
instance (f b g c : Int) : Decidable (RIn f b g c) := by unfold RIn; infer_instance
def RHas (f b x : Int) : Prop := ROk f b ∧ Adr x ∧ Cov f b x
instance (f b x : Int) : Decidable (RHas f b x) := by unfold RHas; infer_instance

theorem div_cov {f x s : Int} (hs : 1 ≤ s) (hf : f % s = 0) : x / s = f / s ↔ f ≤ x ∧ x < f + s := by
  have h1 := Int.emod_add_mul_ediv f s
  have h2 := Int.emod_add_mul_ediv x s
  have h3 := Int.emod_nonneg x (show s ≠ 0 by omega)
  have h4 := Int.emod_lt_of_pos x (show 0 < s by omega)
  rw [hf] at h1
  constructor
  · intro e; rw [e] at h2; omega
  · rintro ⟨a, b⟩
    generalize f / s = q at *
    have e' : x = (x - f) + s * q := by omega
    rw [e', Int.add_mul_ediv_left _ _ (by omega), Int.ediv_eq_zero_of_lt (by omega) (by omega)]; omega
end Go.Proofs.Ytjkfnjjkjhggfaa
set_option linter.unusedSimpArgs false
set_option linter.unusedVariables false
namespace Go.Proofs.Ytjkfnjjkjhggfaa
open Go.RowKit

def rcmp (f b g c : Int) : Int := if icmp f g ≠ 0 then icmp f g else icmp b c
def RC (f b g c : Int) : Int := if ROk f b ∧ ROk g c then rcmp f b g c else 0
theorem l1Cmp_any (f b g c : Int) (w : World) :
    Calls Try.prog 51 #[.agg #[.int .i64 f, .int .i64 b], .agg #[.int .i64 g, .int .i64 c]] w fun e w' => e = .returned (.int .i64 (rcmp f b g c)) ∧ Below w.heap.size w w' := by
  have e : rcmp f b g c = if f < g then -1 else if g < f then 1 else if b < c then -1 else if c < b then 1 else 0 := by
    unfold rcmp icmp; by_cases h1 : f < g <;> by_cases h2 : g < f <;> simp [h1, h2]
  have E := Lib.hid e; clear e
  go_enter Try.func51, Try.ntmps51
  go_wp2
  all_goals go_ret
  all_goals refine ⟨ret_int ?_, (((Below.refl _ _).alloc (Nat.le_refl _) _).alloc (by simp) _)⟩
  all_goals rw [E.out]
  all_goals (repeat' split) <;> first | rfl | omega
end Go.Proofs.Ytjkfnjjkjhggfaa
