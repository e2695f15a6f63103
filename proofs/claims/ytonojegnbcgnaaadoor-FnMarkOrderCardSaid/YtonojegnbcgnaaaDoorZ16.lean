/- FnRouteThree: the walk. Routes compared both ways; are two routes the same: plain laws. Ranges and entries compared; a slice compared with nil. -/
import Derived.Test.YtonojegnbcgnaaaDoorZ15
import Derived.Test.YtonojegnbcgnaaaDoorZ3
import Derived.Laws.StructEq
import Derived.Lib.SliceRun
set_option linter.unusedSimpArgs false
set_option linter.unusedVariables false
namespace Go.Proofs.YtonojegnbcgnaaaDoor
open Go.RowKit

theorem rcmp_m1 {f b g c : Int} : rcmp f b g c = -1 ↔ f < g ∨ f = g ∧ b < c := by unfold rcmp icmp; (repeat' split) <;> omega
theorem rcmp_z {f b g c : Int} : rcmp f b g c = 0 ↔ f = g ∧ b = c := by unfold rcmp icmp; (repeat' split) <;> omega
theorem orz_step {a b c x y z : Int} (ht : a = -1 → b = -1 → c = -1) (h1 : a = 0 → c = b) (h2 : b = 0 → c = a) (hd : x = -1 → y = -1 → z = -1) (p : orz a x = -1) (q : orz b y = -1) : orz c z = -1 := by
  unfold orz at *
  by_cases ha : a = 0
  · rw [if_pos ha] at p
    have hc := h1 ha
    by_cases hb : b = 0
    · rw [if_pos hb] at q; rw [if_pos (by omega)]; exact hd p q
    · rw [if_neg hb] at q; rw [if_neg (by omega)]; omega
  · rw [if_neg ha] at p
    by_cases hb : b = 0
    · have hc := h2 hb; rw [if_neg (by omega)]; omega
    · rw [if_neg hb] at q; have := ht p q; rw [if_neg (by omega)]; exact this
theorem rts_trans {f b lk g c lk2 h d lk3 : Int} {P M P2 M2 P3 M3 : List Int} (h1 : rts f b lk P M g c lk2 P2 M2 = -1) (h2 : rts g c lk2 P2 M2 h d lk3 P3 M3 = -1) : rts f b lk P M h d lk3 P3 M3 = -1 := by
  unfold rts at *
  refine orz_step (fun x y => ?_) (fun x => ?_) (fun x => ?_) (fun x y => ?_) h1 h2
  · have := icmp_neg1.1 x; have := icmp_neg1.1 y; exact icmp_neg1.2 (by omega)
  · rw [icmp_0.1 x]
  · rw [icmp_0.1 x]
  · refine orz_step (fun x y => pcmp_trans x y) (fun x => ?_) (fun x => ?_) (fun x y => ?_) x y
    · rw [pcmp_0.1 x]
    · rw [pcmp_0.1 x]
    · refine orz_step (fun x y => ?_) (fun x => ?_) (fun x => ?_) (fun x y => pcmp_trans x y) x y
      · have := rcmp_m1.1 x; have := rcmp_m1.1 y; exact rcmp_m1.2 (by omega)
      · obtain ⟨e1, e2⟩ := rcmp_z.1 x; rw [e1, e2]
      · obtain ⟨e1, e2⟩ := rcmp_z.1 x; rw [e1, e2]
theorem RT_ok {f b lk g c lk2 : Int} {P M P2 M2 : List Int} (h1 : RtOk f b P lk M) (h2 : RtOk g c P2 lk2 M2) : RT f b lk P M g c lk2 P2 M2 = rts f b lk P M g c lk2 P2 M2 := (if_pos ⟨h1, h2⟩).trans (rts_is h1 h2).symm
end Go.Proofs.YtonojegnbcgnaaaDoor
set_option linter.unusedSimpArgs false
set_option linter.unusedVariables false
namespace Go.Proofs.YtonojegnbcgnaaaDoor
open Go.RowKit

theorem orz_neg (a b : Int) : orz (-a) (-b) = - orz a b := by unfold orz; split <;> split <;> omega
theorem orz_0 {a b : Int} : orz a b = 0 ↔ a = 0 ∧ b = 0 := by unfold orz; split <;> omega
theorem orz_n {a b : Int} (h : a ≠ 0) : orz a b = a := if_neg h
theorem orz_z {b : Int} : orz 0 b = b := if_pos rfl
theorem rcmp_neg (f b g c : Int) : rcmp g c f b = - rcmp f b g c := by unfold rcmp icmp; (repeat' split) <;> omega
theorem rts_neg (f b lk : Int) (P M : List Int) (g c lk2 : Int) (P2 M2 : List Int) : rts g c lk2 P2 M2 f b lk P M = - rts f b lk P M g c lk2 P2 M2 := by
  unfold rts; rw [icmp_neg lk2 lk, pcmp_neg P P2, rcmp_neg f b g c, pcmp_neg M M2, orz_neg, orz_neg, orz_neg]
/-- Two routes are the same. -/
def SameR (f b lk : Int) (P M : List Int) (g c lk2 : Int) (P2 M2 : List Int) : Prop := (f = g ∧ b = c) ∧ P = P2 ∧ lk = lk2 ∧ M = M2
instance (f b lk : Int) (P M : List Int) (g c lk2 : Int) (P2 M2 : List Int) : Decidable (SameR f b lk P M g c lk2 P2 M2) := by unfold SameR; infer_instance
theorem rts_same (f b lk : Int) (P M : List Int) (g c lk2 : Int) (P2 M2 : List Int) : rts f b lk P M g c lk2 P2 M2 = 0 ↔ SameR f b lk P M g c lk2 P2 M2 := by
  unfold rts SameR
  rw [orz_0, orz_0, orz_0, icmp_0, pcmp_0, rcmp_z, pcmp_0]
  constructor
  · rintro ⟨h1, h2, h3, h4⟩; exact ⟨h3, h2, h1.symm, h4⟩
  · rintro ⟨h3, h2, h1, h4⟩; exact ⟨h1.symm, h2, h3, h4⟩
theorem orz_bd {a b : Int} (ha : -1 ≤ a ∧ a ≤ 1) (hb : -1 ≤ b ∧ b ≤ 1) : -1 ≤ orz a b ∧ orz a b ≤ 1 := by unfold orz; split <;> omega
theorem pcmp_bd' (L K : List Int) : -1 ≤ pcmp L K ∧ pcmp L K ≤ 1 := orz_bd (icmp_bd _ _) (lex_bd L K)
theorem rcmp_bd (f b g c : Int) : -1 ≤ rcmp f b g c ∧ rcmp f b g c ≤ 1 := by have := icmp_bd f g; have := icmp_bd b c; unfold rcmp; split <;> omega
theorem rts_bd (f b lk : Int) (P M : List Int) (g c lk2 : Int) (P2 M2 : List Int) : -1 ≤ rts f b lk P M g c lk2 P2 M2 ∧ rts f b lk P M g c lk2 P2 M2 ≤ 1 :=
  orz_bd (icmp_bd _ _) (orz_bd (pcmp_bd' _ _) (orz_bd (rcmp_bd _ _ _ _) (pcmp_bd' _ _)))
theorem rts_like {f b lk : Int} {P M : List Int} {g c lk2 : Int} {P2 M2 : List Int} (h : lk2 < lk) : rts f b lk P M g c lk2 P2 M2 = -1 := by
  unfold rts; rw [show icmp lk2 lk = -1 by unfold icmp; rw [if_pos h]]; rfl
theorem rts_path {f b lk : Int} {P M : List Int} {g c : Int} {P2 M2 : List Int} (h : pcmp P P2 ≠ 0) : rts f b lk P M g c lk P2 M2 = pcmp P P2 := by
  unfold rts; rw [show icmp lk lk = 0 by simp [icmp], orz_z, orz_n h]
end Go.Proofs.YtonojegnbcgnaaaDoor
set_option linter.unusedSimpArgs false
set_option linter.unusedVariables false
namespace Go.Proofs.YtonojegnbcgnaaaDoor
open Go.RowKit

theorem rng_fields : (Tryd.prog.fieldsOf 24).toList = [⟨ "First", 3, 0, false, "", "", 0⟩, ⟨ "Bits", 3, 1, false, "", "", 8⟩] := by kernel_rfl
theorem rng_eq (f b g c : Int) (d : Nat) (w : World) : (Op.equalIn (d + 2) 24 (.agg #[.int .i64 f, .int .i64 b]) (.agg #[.int .i64 g, .int .i64 c])).run Tryd.prog w = .ok (f == g && b == c) w := by
  rw [run_equalIn_agg w (d + 1) 24 _ _ (by kernel_rfl) (by kernel_rfl), rng_fields]
  cases h1 : (f == g) <;> cases h2 : (b == c) <;> simp [Op.eqFields, go_sem, h1, h2]
theorem rng_neq (f b g c : Int) (w : World) : (binOp .neq 24 (.agg #[.int .i64 f, .int .i64 b]) (.agg #[.int .i64 g, .int .i64 c])).run Tryd.prog w = .ok (.bool (!(f == g && b == c))) w := by
  rw [run_neq_struct, rng_eq f b g c 9998]; rfl
theorem rng_eql (f b g c : Int) (w : World) : (binOp .eql 24 (.agg #[.int .i64 f, .int .i64 b]) (.agg #[.int .i64 g, .int .i64 c])).run Tryd.prog w = .ok (.bool (f == g && b == c)) w := by
  rw [run_eql_struct, rng_eq f b g c 9998]; rfl
end Go.Proofs.YtonojegnbcgnaaaDoor
