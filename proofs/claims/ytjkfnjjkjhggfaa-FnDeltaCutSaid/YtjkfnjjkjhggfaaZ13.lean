/- FnRouteThree: the walk. Routes compared both ways; are two routes the same: plain laws. Two rows of numbers are the same. -/
import Derived.Test.YtjkfnjjkjhggfaaZ12
import Derived.Test.YtjkfnjjkjhggfaaZ5
set_option linter.unusedSimpArgs false
set_option linter.unusedVariables false
namespace Go.Proofs.Ytjkfnjjkjhggfaa
open Go.RowKit

theorem rcmp_m1 {f b g c : Int} : rcmp f b g c = -1 ↔ f < g ∨ f = g ∧ b < c := by unfold rcmp icmp; (repeat' split) <;> omega
theorem rcmp_z {f b g c : Int} : rcmp f b g c = 0 ↔ f = g ∧ b = c := by unfold rcmp icmp; (repeat' split) <;> omega
theorem orz_step {a b c x y z : Int} (ht : a = -1 → b = -1 → c = -1) (h1 : a = 0 → c = b) (h2 : b = 0 → c = a) (hd : x = -1 → y = -1 → z = -1) (p : orz a x = -1) (q : orz b y = -1) : orz c z = -1 := by
  unfold orz at *
  by_cases ha : a = 0
  · rw [if_pos ha] at p
    have hc := h1 ha
    by_cases hb : b = 0
    · rw [if_pos hb] at q; rw [if_pos (by omega)]; exact hd p q
    · rw [if_neg hb] at q; rw [if_neg (by omega)]; omega
  · rw [if_neg ha] at p
    by_cases hb : b = 0
    · have hc := h2 hb; rw [if_neg (by omega)]; omega
    · rw [if_neg hb] at q; have := ht p q; rw [if_neg (by omega)]; exact this
theorem rts_trans {f b lk g c lk2 h d lk3 : Int} {P M P2 M2 P3 M3 : List Int} (h1 : rts f b lk P M g c lk2 P2 M2 = -1) (h2 : rts g c lk2 P2 M2 h d lk3 P3 M3 = -1) : rts f b lk P M h d lk3 P3 M3 = -1 := by
  unfold rts at *
  refine orz_step (fun x y => ?_) (fun x => ?_) (fun x => ?_) (fun x y => ?_) h1 h2
  · have := icmp_neg1.1 x; have := icmp_neg1.1 y; exact icmp_neg1.2 (by omega)
  · rw [icmp_0.1 x]
  · rw [icmp_0.1 x]
  · refine orz_step (fun x y => pcmp_trans x y) (fun x => ?_) (fun x => ?_) (fun x y => ?_) x y
    · rw [pcmp_0.1 x]
    · rw [pcmp_0.1 x]
    · refine orz_step (fun x y => ?_) (fun x => ?_) (fun x => ?_) (fun x y => pcmp_trans x y) x y
      · have := rcmp_m1.1 x; have := rcmp_m1.1 y; exact rcmp_m1.2 (by omega)
      · obtain ⟨e1, e2⟩ := rcmp_z.1 x; rw [e1, e2]
      · obtain ⟨e1, e2⟩ := rcmp_z.1 x; rw [e1, e2]
theorem RT_ok {f b lk g c lk2 : Int} {P M P2 M2 : List Int} (h1 : RtOk f b P lk M) (h2 : RtOk g c P2 lk2 M2) : RT f b lk P M g c lk2 P2 M2 = rts f b lk P M g c lk2 P2 M2 := (if_pos ⟨h1, h2⟩).trans (rts_is h1 h2).symm
end Go.Proofs.Ytjkfnjjkjhggfaa
set_option linter.unusedSimpArgs false
set_option linter.unusedVariables false
namespace Go.Proofs.Ytjkfnjjkjhggfaa
open Go.RowKit

theorem orz_neg (a b : Int) : orz (-a) (-b) = - orz a b := by unfold orz; split <;> split <;> omega
theorem orz_0 {a b : Int} : orz a b = 0 ↔ a = 0 ∧ b = 0 := by unfold orz; split <;> omega
theorem orz_n {a b : Int} (h : a ≠ 0) : orz a b = a := if_neg h
theorem orz_z {b : Int} : orz 0 b = b := if_pos rfl
theorem rcmp_neg (f b g c : Int) : rcmp g c f b = - rcmp f b g c := by unfold rcmp icmp; (repeat' split) <;> omega
theorem rts_neg (f b lk : Int) (P M : List Int) (g c lk2 : Int) (P2 M2 : List Int) : rts g c lk2 P2 M2 f b lk P M = - rts f b lk P M g c lk2 P2 M2 := by
  unfold rts; rw [icmp_neg lk2 lk, pcmp_neg P P2, rcmp_neg f b g c, pcmp_neg M M2, orz_neg, orz_neg, orz_neg]
/-- Two routes are the same. -/
def SameR (f b lk : Int) (P M : List Int) (g c lk2 : Int) (P2 M2 : List Int) : Prop := (f = g ∧ b = c) ∧ P = P2 ∧ lk = lk2 ∧ M = M2
instance (f b lk : Int) (P M : List Int) (g c lk2 : Int) (P2 M2 : List Int) : Decidable (SameR f b lk P M g c lk2 P2 M2) := by unfold SameR; infer_instance
theorem rts_same (f b lk : Int) (P M : List Int) (g c lk2 : Int) (P2 M2 : List Int) : rts f b lk P M g c lk2 P2 M2 = 0 ↔ SameR f b lk P M g c lk2 P2 M2 := by
  unfold rts SameR
  rw [orz_0, orz_0, orz_0, icmp_0, pcmp_0, rcmp_z, pcmp_0]
  constructor
  · rintro ⟨h1, h2, h3, h4⟩; exact ⟨h3, h2, h1.symm, h4⟩
  · rintro ⟨h3, h2, h1, h4⟩; exact ⟨h1.symm, h2, h3, h4⟩
theorem orz_bd {a b : Int} (ha : -1 ≤ a ∧ a ≤ 1) (hb : -1 ≤ b ∧ b ≤ 1) : -1 ≤ orz a b ∧ orz a b ≤ 1 := by unfold orz; split <;> omega
theorem pcmp_bd' (L K : List Int) : -1 ≤ pcmp L K ∧ pcmp L K ≤ 1 := orz_bd (icmp_bd _ _) (lex_bd L K)
theorem rcmp_bd (f b g c : Int) : -1 ≤ rcmp f b g c ∧ rcmp f b g c ≤ 1 := by have := icmp_bd f g; have := icmp_bd b c; unfold rcmp; split <;> omega
theorem rts_bd (f b lk : Int) (P M : List Int) (g c lk2 : Int) (P2 M2 : List Int) : -1 ≤ rts f b lk P M g c lk2 P2 M2 ∧ rts f b lk P M g c lk2 P2 M2 ≤ 1 :=
  orz_bd (icmp_bd _ _) (orz_bd (pcmp_bd' _ _) (orz_bd (rcmp_bd _ _ _ _) (pcmp_bd' _ _)))
theorem rts_like {f b lk : Int} {P M : List Int} {g c lk2 : Int} {P2 M2 : List Int} (h : lk2 < lk) : rts f b lk P M g c lk2 P2 M2 = -1 := by
  unfold rts; rw [show icmp lk2 lk = -1 by unfold icmp; rw [if_pos h]]; rfl
theorem rts_path {f b lk : Int} {P M : List Int} {g c : Int} {P2 M2 : List Int} (h : pcmp P P2 ≠ 0) : rts f b lk P M g c lk P2 M2 = pcmp P P2 := by
  unfold rts; rw [show icmp lk lk = 0 by simp [icmp], orz_z, orz_n h]
end Go.Proofs.Ytjkfnjjkjhggfaa
set_option linter.unusedSimpArgs false
set_option linter.unusedVariables false
namespace Go.Proofs.Ytjkfnjjkjhggfaa
open Go.RowKit

theorem Ints.sl {w : World} {v : Value} {L : List Int} (h : Ints w v L) : ∃ ao n cap, v = .slice ao n cap ∧ Hid (L.length = n) ∧ n ≤ cap ∧ cap ≤ 9223372036854775807 := by
  obtain ⟨ao, cap, e, h1, h2, _⟩ := h.ex
  exact ⟨ao, _, cap, e, rfl, h1, h2⟩
theorem ints_nil (w : World) (ao : Option Addr) (cap : Nat) (hc : cap ≤ 9223372036854775807) : Ints w (.slice ao 0 cap) [] := Rows.nil w ao cap hc _ _
theorem take_ne {L K : List Int} {k : Nat} {p q : Int} (h1 : L[k]? = some p) (h2 : K[k]? = some q) (h : p ≠ q) : decide (L = K) = false := by
  rw [decide_eq_false_iff_not]; rintro rfl; rw [h1] at h2; injection h2 with h2; exact h h2
theorem take_eq {L K : List Int} {k : Nat} {p q : Int} (h0 : L.take k = K.take k) (h1 : L[k]? = some p) (h2 : K[k]? = some q) (h : p = q) : L.take (k + 1) = K.take (k + 1) := by
  rw [take_succ' h1, take_succ' h2, h0, h]
set_option maxHeartbeats 1000000 in
theorem lyInts_any (v1 v2 : Value) (L K : List Int) (w : World) (h1 : Ints w v1 L) (h2 : Ints w v2 K) :
    Calls Try.prog 57 #[v1, v2] w fun e w' => e = .returned (.bool (decide (L = K))) ∧ Below w.heap.size w w' := by
  have hF := Fb.start w
  obtain ⟨ao, n, cap, rfl, hn, hnc, hcap⟩ := h1.sl
  obtain ⟨bo, m, cap2, rfl, hm, hmc, hcap2⟩ := h2.sl
  by_cases hnm : n = m
  · subst hnm
    have d1 : ((n : Int) != (n : Int)) = false := by simp
    have HL := Lib.hid h1
    have HK := Lib.hid h2
    clear h1 h2
    go_enter Try.func57, Try.ntmps57
    go_wp2
    go_loopw [5] (fun i wr => ∃ k : Nat, k ≤ n ∧ i = .int .i64 k ∧ Hid (L.take k = K.take k) ∧ Fb w wr []) (fun i _ => n - (intOf i).toNat)
    case atStart => exact ⟨0, Nat.zero_le _, rfl, by show _ = _; simp, hF⟩
    case round =>
      clear hF
      obtain ⟨k, hk, rfl, ht, hF⟩ := hrel
      by_cases hlt : k < n
      · obtain ⟨b1, o1, rfl⟩ := HL.out.some (by omega)
        obtain ⟨b2, o2, rfl⟩ := HK.out.some (by omega)
        obtain ⟨p, hp⟩ := get_of hn.out hlt
        obtain ⟨q, hq⟩ := get_of hm.out hlt
        have HP := Lib.hid hp
        have HQ := Lib.hid hq
        clear hp hq
        have f1 := fun z : Cl wr.heap.size wr => Cl.old hF z (HL.out.get HP.out)
        have f2 := fun z : Cl wr.heap.size wr => Cl.old hF z (HK.out.get HQ.out)
        by_cases hpq : p = q
        · have d2 : (p != q) = false := by simp [hpq]
          have ht2 := Lib.hid (take_eq ht.out HP.out HQ.out hpq)
          clear hpq
          go_wp2
          first | refine wp_region_new (by kernel_rfl) (by kernel_rfl) ?_ | refine wp_region_lex ?_
          repeat (any_goals (first | go_big_quiet_step ((fail)) | (refine wpQuiet_step (fun K hK => ?_); go_simp; split <;> (rename_i hg; refine hK _ ?_; clear hK K; simp only [hg, decide_true, decide_false]))))
          all_goals (refine wpQuiet_nil ?_; intro x)
          go_wp2
          go_roundw
          case rel => exact ⟨k + 1, by omega, by go_num, ht2, hF.cl x⟩
          case measure => simp [intOf]; omega
        · have d2 : (p != q) = true := by simp [hpq]
          have ht2 := Lib.hid (take_ne HP.out HQ.out hpq)
          clear hpq
          go_wp2
          first | refine wp_region_new (by kernel_rfl) (by kernel_rfl) ?_ | refine wp_region_lex ?_
          repeat (any_goals (first | go_big_quiet_step ((fail)) | (refine wpQuiet_step (fun K hK => ?_); go_simp; split <;> (rename_i hg; refine hK _ ?_; clear hK K; simp only [hg, decide_true, decide_false]))))
          all_goals (refine wpQuiet_nil ?_; intro x)
          go_wp2
          go_ret
          exact ⟨by rw [ht2.out]; rfl, (hF.cl x).kp⟩
      · have hd : Hid (decide (L = K) = true) := by
          have := ht.out
          rw [List.take_of_length_le (by rw [hn.out]; omega), List.take_of_length_le (by rw [hm.out]; omega)] at this
          exact decide_eq_true this
        go_wp2
        go_ret
        exact ⟨by rw [hd.out]; rfl, hF.kp⟩
  · have d1 : ((n : Int) != (m : Int)) = true := by simp; omega
    have hd : Hid (decide (L = K) = false) := decide_eq_false (fun e => hnm (by rw [← hn.out, ← hm.out, e]))
    clear h1 h2 hnm
    go_enter Try.func57, Try.ntmps57
    go_wp2
    go_ret
    exact ⟨by rw [hd.out]; rfl, hF.kp⟩
end Go.Proofs.Ytjkfnjjkjhggfaa
