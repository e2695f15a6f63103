/- Paths: impl.PathOk, PathHas both. cmp.Compare, cmp.Or. Paths compared. -/
import Derived.Test.YtjkfnjjkjhggfaaZ6
import Derived.Test.YtjkfnjjkjhggfaaZ3
set_option linter.unusedSimpArgs false
set_option linter.unusedVariables false
namespace Go.Proofs.Ytjkfnjjkjhggfaa
open Go.RowKit

/-- A house is on a path. -/
def Has (L : List Int) (h : Int) : Prop := POk L ∧ h ∈ L
instance (L : List Int) (h : Int) : Decidable (Has L h) := by unfold Has; infer_instance
end Go.Proofs.Ytjkfnjjkjhggfaa
set_option linter.unusedSimpArgs false
set_option linter.unusedVariables false
namespace Go.Proofs.Ytjkfnjjkjhggfaa
open Go.RowKit

/-- Of two numbers: which is less. -/
def icmp (a b : Int) : Int := if a < b then -1 else if b < a then 1 else 0
theorem icmp_bd (a b : Int) : -1 ≤ icmp a b ∧ icmp a b ≤ 1 := by unfold icmp; split <;> (try split) <;> omega
/-- The first that is not nought. -/
def orI (zs : List Int) : Int := (zs.find? (· != 0)).getD 0
theorem orI_at (zs : List Int) : ∀ k, (∀ i, i < k → zs.getD i 0 = 0) → (k < zs.length → zs.getD k 0 ≠ 0) → orI zs = zs.getD k 0 := by
  induction zs with
  | nil => intro k _ _; simp [orI]
  | cons z zs ih =>
    intro k h0 h1
    cases k with
    | zero => have := h1 (by simp); simp at this; simp [orI, List.find?_cons, this]
    | succ k =>
      have e : z = 0 := by simpa using h0 0 (by omega)
      have := ih k (fun i hi => by simpa using h0 (i + 1) (by omega)) (fun hk => by simpa using h1 (by simpa using hk))
      simpa [orI, List.find?_cons, e] using this
theorem orI_nil : orI [] = 0 := rfl
theorem orI_cons (z : Int) (zs : List Int) : orI (z :: zs) = if z = 0 then orI zs else z := by
  by_cases h : z = 0
  · simp [orI, List.find?_cons, h]
  · have : (z != 0) = true := by simpa using h
    simp [orI, List.find?_cons, this, h]
end Go.Proofs.Ytjkfnjjkjhggfaa
set_option linter.unusedSimpArgs false
set_option linter.unusedVariables false
namespace Go.Proofs.Ytjkfnjjkjhggfaa
open Go.RowKit

/-- Number by number. -/
def lex : List Int → List Int → Int
  | [], [] => 0
  | [], _ :: _ => -1
  | _ :: _, [] => 1
  | x :: L, y :: K => if icmp x y = 0 then lex L K else icmp x y
def orz (x y : Int) : Int := if x = 0 then y else x
def pcmp (L K : List Int) : Int := orz (icmp (L.length : Int) (K.length : Int)) (lex L K)
def PC (L K : List Int) : Int := if POk L ∧ POk K then pcmp L K else 0
theorem drop_at {α : Type} {L : List α} {k : Nat} {x : α} (h : L[k]? = some x) : L.drop k = x :: L.drop (k + 1) := by
  obtain ⟨hk, rfl⟩ := List.getElem?_eq_some_iff.1 h
  exact List.drop_eq_getElem_cons hk
theorem lex_step {L K : List Int} {k : Nat} {x y : Int} (hx : L[k]? = some x) (hy : K[k]? = some y) : lex (L.drop k) (K.drop k) = if icmp x y = 0 then lex (L.drop (k + 1)) (K.drop (k + 1)) else icmp x y := by
  rw [drop_at hx, drop_at hy]; rfl
theorem lex_long {L K : List Int} {k : Nat} {x : Int} (hx : L[k]? = some x) (hk : K.length ≤ k) : lex (L.drop k) (K.drop k) = 1 := by
  rw [drop_at hx, List.drop_eq_nil_of_le hk]; rfl
theorem lex_end {L K : List Int} {k : Nat} (hl : L.length ≤ k) : lex (L.drop k) (K.drop k) = if k < K.length then -1 else 0 := by
  rw [List.drop_eq_nil_of_le hl]
  by_cases h : k < K.length
  · rw [if_pos h, List.drop_eq_getElem_cons h]; rfl
  · rw [if_neg h, List.drop_eq_nil_of_le (by omega)]; rfl
theorem lex_bd : ∀ (L K : List Int), -1 ≤ lex L K ∧ lex L K ≤ 1
  | [], [] => by simp [lex]
  | [], _ :: _ => by simp [lex]
  | _ :: _, [] => by simp [lex]
  | x :: L, y :: K => by
    simp only [lex]; split
    · exact lex_bd L K
    · exact icmp_bd x y
set_option maxHeartbeats 1000000 in
theorem l3Cmp_any (v1 v2 : Value) (L K : List Int) (w : World) (h1 : Ints w v1 L) (h2 : Ints w v2 K) :
    Calls Try.prog 56 #[v1, v2] w fun e w' => e = .returned (.int .i64 (pcmp L K)) ∧ Below w.heap.size w w' := by
  have hF := Fb.start w
  obtain ⟨n, c1, hn, hnc, hcap, hv1⟩ := h1.cases
  obtain ⟨m, c2, hm, hmc, hcap2, hv2⟩ := h2.cases
  clear h1 h2
  by_cases hnm : n = m
  · subst hnm
    have hr : Hid (pcmp L K = lex L K) := by show pcmp L K = _; unfold pcmp orz; rw [hn.out, hm.out, if_pos (by simp [icmp])]
    rcases hv1 with ⟨hn0, ao, rfl⟩ | ⟨hn0, b0, off, rfl, hc⟩
    all_goals rcases hv2 with ⟨hm0, ao2, rfl⟩ | ⟨hm0, b2, off2, rfl, hc2⟩
    all_goals try (exfalso; omega)
    all_goals
      go_enter Try.func56, Try.ntmps56
      go_wp2
      go_loopw [5] (fun s5 wr => ∃ k : Nat, k ≤ n ∧ s5 = .int .i64 k ∧ Hid (lex (L.drop k) (K.drop k) = lex L K) ∧ Fb w wr []) (fun s5 _ => n - (intOf s5).toNat)
      case atStart => exact ⟨0, Nat.zero_le _, rfl, rfl, hF⟩
      case round =>
        clear hF
        obtain ⟨k, hk, rfl, hlx, hF⟩ := hrel
        by_cases hlt : k < n
        · try (exfalso; omega)
          all_goals
            obtain ⟨p, hx⟩ := get_of hn.out hlt
            obtain ⟨q, hy⟩ := get_of hm.out hlt
            have G1 := Lib.hid (hc.out k p hx)
            have G2 := Lib.hid (hc2.out k q hy)
            have g1 := fun z : Cl wr.heap.size wr => Cl.old hF z (hc.out k p hx)
            have g2 := fun z : Cl wr.heap.size wr => Cl.old hF z (hc2.out k q hy)
            have hst := Lib.hid (lex_step hx hy)
            clear hx hy
            by_cases d1 : p < q
            · have hl2 : Hid (lex L K = -1) := by
                have e := hst.out
                have ei : icmp p q = -1 := by unfold icmp; rw [if_pos d1]
                rw [ei, if_neg (by omega)] at e
                exact hlx.out.symm.trans e
              go_wp2
              first | refine wp_region_new (by kernel_rfl) (by kernel_rfl) ?_ | refine wp_region_lex ?_
              repeat (any_goals (first | go_big_quiet_step ((fail)) | (refine wpQuiet_step (fun K hK => ?_); go_simp; split <;> (rename_i hg; refine hK _ ?_; clear hK K; simp only [hg, decide_true, decide_false]))))
              all_goals (refine wpQuiet_nil ?_; intro x)
              go_wp2
              go_ret
              exact ⟨by rw [hr.out, hl2.out]; rfl, (hF.cl x).kp⟩
            · by_cases d2 : q < p
              · have hl2 : Hid (lex L K = 1) := by
                  have e := hst.out
                  have ei : icmp p q = 1 := by unfold icmp; rw [if_neg d1, if_pos d2]
                  rw [ei, if_neg (by omega)] at e
                  exact hlx.out.symm.trans e
                go_wp2
                first | refine wp_region_new (by kernel_rfl) (by kernel_rfl) ?_ | refine wp_region_lex ?_
                repeat (any_goals (first | go_big_quiet_step ((fail)) | (refine wpQuiet_step (fun K hK => ?_); go_simp; split <;> (rename_i hg; refine hK _ ?_; clear hK K; simp only [hg, decide_true, decide_false]))))
                all_goals (refine wpQuiet_nil ?_; intro x)
                have hF := hF.cl x
                have g1 := fun z : Cl x.W.heap.size x.W => Cl.old hF z G1.out
                have g2 := fun z : Cl x.W.heap.size x.W => Cl.old hF z G2.out
                go_wp2
                first | refine wp_region_new (by kernel_rfl) (by kernel_rfl) ?_ | refine wp_region_lex ?_
                repeat (any_goals (first | go_big_quiet_step ((fail)) | (refine wpQuiet_step (fun K hK => ?_); go_simp; split <;> (rename_i hg; refine hK _ ?_; clear hK K; simp only [hg, decide_true, decide_false]))))
                all_goals (refine wpQuiet_nil ?_; intro x)
                go_wp2
                go_ret
                exact ⟨by rw [hr.out, hl2.out]; rfl, (hF.cl x).kp⟩
              · have hl2 : Hid (lex (L.drop (k + 1)) (K.drop (k + 1)) = lex L K) := by
                  have e := hst.out
                  have ei : icmp p q = 0 := by unfold icmp; rw [if_neg d1, if_neg d2]
                  rw [ei, if_pos rfl] at e
                  exact e.symm.trans hlx.out
                go_wp2
                first | refine wp_region_new (by kernel_rfl) (by kernel_rfl) ?_ | refine wp_region_lex ?_
                repeat (any_goals (first | go_big_quiet_step ((fail)) | (refine wpQuiet_step (fun K hK => ?_); go_simp; split <;> (rename_i hg; refine hK _ ?_; clear hK K; simp only [hg, decide_true, decide_false]))))
                all_goals (refine wpQuiet_nil ?_; intro x)
                have hF := hF.cl x
                have g1 := fun z : Cl x.W.heap.size x.W => Cl.old hF z G1.out
                have g2 := fun z : Cl x.W.heap.size x.W => Cl.old hF z G2.out
                go_wp2
                first | refine wp_region_new (by kernel_rfl) (by kernel_rfl) ?_ | refine wp_region_lex ?_
                repeat (any_goals (first | go_big_quiet_step ((fail)) | (refine wpQuiet_step (fun K hK => ?_); go_simp; split <;> (rename_i hg; refine hK _ ?_; clear hK K; simp only [hg, decide_true, decide_false]))))
                all_goals (refine wpQuiet_nil ?_; intro x)
                go_wp2
                go_roundw
                case rel => exact ⟨k + 1, by omega, by go_num, hl2, hF.cl x⟩
                case measure => simp [intOf]; omega
        · have hl2 : Hid (lex L K = 0) := hlx.out.symm.trans ((lex_end (by rw [hn.out]; omega)).trans (if_neg (by rw [hm.out]; omega)))
          go_wp2
          go_ret
          exact ⟨by rw [hr.out, hl2.out]; rfl, hF.kp⟩
  · have dnm : ((n : Int) != (m : Int)) = true := by simp; omega
    by_cases hlt : n < m
    · have hr : Hid (pcmp L K = -1) := by
        have ei : icmp (n : Int) (m : Int) = -1 := by unfold icmp; rw [if_pos (by omega)]
        show pcmp L K = _; unfold pcmp orz; rw [hn.out, hm.out, ei, if_neg (by omega)]
      have hl : (n : Int) < (m : Int) := by omega
      rcases hv1 with ⟨hn0, ao, rfl⟩ | ⟨hn0, b0, off, rfl, hc⟩
      all_goals rcases hv2 with ⟨hm0, ao2, rfl⟩ | ⟨hm0, b2, off2, rfl, hc2⟩
      all_goals
        go_enter Try.func56, Try.ntmps56
        go_wp2
        go_ret
        exact ⟨by rw [hr.out]; rfl, hF.kp⟩
    · have hr : Hid (pcmp L K = 1) := by
        have ei : icmp (n : Int) (m : Int) = 1 := by unfold icmp; rw [if_neg (by omega), if_pos (by omega)]
        show pcmp L K = _; unfold pcmp orz; rw [hn.out, hm.out, ei, if_neg (by omega)]
      have hl : ¬ (n : Int) < (m : Int) := by omega
      rcases hv1 with ⟨hn0, ao, rfl⟩ | ⟨hn0, b0, off, rfl, hc⟩
      all_goals rcases hv2 with ⟨hm0, ao2, rfl⟩ | ⟨hm0, b2, off2, rfl, hc2⟩
      all_goals
        go_enter Try.func56, Try.ntmps56
        go_wp2
        go_ret
        exact ⟨by rw [hr.out]; rfl, hF.kp⟩
end Go.Proofs.Ytjkfnjjkjhggfaa
