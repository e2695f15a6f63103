/- Policies: rows of clauses; are they a policy, by both. -/
import Derived.Test.YtgegmampnpgcaaaCa
import Derived.Test.YtgegmampnpgcaaaB6
set_option linter.unusedSimpArgs false
set_option linter.unusedVariables false
namespace Go.Proofs.Ytgegmampnpgcaaa
open Go.RowKit

/-- A clause: If, N, Range (two numbers), Refuse, Like, Mark, Clear. -/
structure ClD where
  i : Int
  n : Int
  f : Int
  b : Int
  rf : Bool
  l : Int
  m : Int
  c : Int
def encC (x : ClD) : List Value := [.int .i64 x.i, .int .i64 x.n, .int .i64 x.f, .int .i64 x.b, .bool x.rf, .int .i64 x.l, .int .i64 x.m, .int .i64 x.c]
def zC : Value := .agg #[.int .i64 0, .int .i64 0, .int .i64 0, .int .i64 0, .bool false, .int .i64 0, .int .i64 0, .int .i64 0]
theorem infoCl : (Try.prog.info? 29).map (fun i => (i.zero, i.size, i.bytes)) = some (some zC, 8, 64) := by kernel_rfl
def CD (x : ClD) : Prop := COk x.i x.n x.f x.b x.l x.m x.c
instance (x : ClD) : Decidable (CD x) := by unfold CD; infer_instance
def badC (x : ClD) : Bool := !decide (CD x)
def PolOk (P : List ClD) : Prop := P.any badC = false ∧ P.length ≤ 5
instance (P : List ClD) : Decidable (PolOk P) := by unfold PolOk; infer_instance
abbrev Cls (w : World) (v : Value) (P : List ClD) : Prop := Rows w v 8 encC P
theorem any_sub {α : Type} {p : α → Bool} {L K : List α} (hs : K.Sublist L) (h : L.any p = false) : K.any p = false := by
  rw [List.any_eq_false] at h ⊢
  exact fun x hx => h x (hs.subset hx)
theorem pol_sub {P Q : List ClD} (h : PolOk P) (hs : Q.Sublist P) : PolOk Q := ⟨any_sub hs h.1, Nat.le_trans hs.length_le h.2⟩
theorem pol_not (P : List ClD) : ¬ PolOk (P ++ [⟨0, 0, 0, 0, false, 0, 0, 0⟩]) := fun h => by
  have := h.1
  rw [List.any_append] at this
  have e : [(⟨0, 0, 0, 0, false, 0, 0, 0⟩ : ClD)].any badC = true := by decide
  rw [e, Bool.or_true] at this
  cases this
theorem PolicyOk1_any (x : ClD) (w : World) :
    Calls Try.prog 11 #[.agg #[.int .i64 x.i, .int .i64 x.n, .int .i64 x.f, .int .i64 x.b, .bool x.rf, .int .i64 x.l, .int .i64 x.m, .int .i64 x.c]] w fun e w' => e = .returned (.bool (badC x)) ∧ Below w.heap.size w w' := by
  have hF := (Fb.start w).alloc [.int .i64 x.i, .int .i64 x.n, .int .i64 x.f, .int .i64 x.b, .bool x.rf, .int .i64 x.l, .int .i64 x.m, .int .i64 x.c] 29
  obtain ⟨i, n, f, b, rf, l, m, c⟩ := x
  go_enter Try.func11, Try.ntmps11
  go_wp2_with fail
  refine (iClauseOk_any i n f b l m c rf _).mono ?_; rintro e w1 ⟨rfl, hb⟩
  go_wp2
  go_ret
  exact ⟨by simp [badC, CD], (hF.below hb).kp⟩
theorem IndexCl_any (v : Value) (P : List ClD) (w : World) (hv : Cls w v P) :
    Calls Try.prog 15 #[v, .func (.func 11) #[] #[]] w fun e w' => (∃ z : Int, e = .returned (.int .i64 z) ∧ decide (0 ≤ z) = P.any badC) ∧ Below w.heap.size w w' := by
  have hF := Fb.start w
  obtain ⟨n, cap, hn, hnc, hcap, ⟨hn0, ao, rfl⟩ | ⟨hn0, b0, off, rfl, hc⟩⟩ := hv.cases
  all_goals
    clear hv
    go_enter Try.func15, Try.ntmps15
    go_wp2
    go_loopw [8] (fun i wr => ∃ k : Nat, k ≤ n ∧ i = .int .i64 k ∧ Hid ((P.take k).any badC = false) ∧ Fb w wr []) (fun i _ => n - (intOf i).toNat)
    case atStart => exact ⟨0, Nat.zero_le _, rfl, rfl, hF⟩
    case round =>
      clear hF
      obtain ⟨k, hk, rfl, hany, hF⟩ := hrel
      by_cases hlt : k < n
      · try (exfalso; omega)
        all_goals
          obtain ⟨x, hx⟩ := get_of hn.out hlt
          have HX := Lib.hid hx; clear hx
          have c0 := hF.old (hc.out k x HX.out 0 _ rfl)
          have c1 := hF.old (hc.out k x HX.out 1 _ rfl)
          have c2 := hF.old (hc.out k x HX.out 2 _ rfl)
          have c3 := hF.old (hc.out k x HX.out 3 _ rfl)
          have c4 := hF.old (hc.out k x HX.out 4 _ rfl)
          have c5 := hF.old (hc.out k x HX.out 5 _ rfl)
          have c6 := hF.old (hc.out k x HX.out 6 _ rfl)
          have c7 := hF.old (hc.out k x HX.out 7 _ rfl)
          have HC := Lib.hid (PolicyOk1_any x wr)
          obtain ⟨xi, xn, xf, xb, xr, xl, xm, xc⟩ := x
          dsimp only [Nat.add_zero] at c0 c1 c2 c3 c4 c5 c6 c7
          go_wp2_with (go_at_call 11; go_must (refine HC.out.mono ?_); rintro e w1 ⟨rfl, hb1⟩)
          · have hp := Lib.hid (any_hit (p := badC) HX.out (by assumption))
            go_ret
            exact ⟨⟨_, rfl, by rw [hp.out]; simp⟩, (hF.below hb1).kp⟩
          · have hp := Lib.hid (any_step (p := badC) hany.out HX.out (by assumption))
            go_roundw
            case rel => exact ⟨k + 1, by omega, by go_num, hp, hF.below hb1⟩
            case measure => simp [intOf]; omega
      · have hp := Lib.hid (any_end (p := badC) hany.out (by rw [hn.out]; omega))
        go_wp2
        go_ret
        exact ⟨⟨-1, rfl, by rw [hp.out]; simp⟩, hF.kp⟩
theorem ContainsCl_any (v : Value) (P : List ClD) (w : World) (hv : Cls w v P) :
    Calls Try.prog 10 #[v, .func (.func 11) #[] #[]] w fun e w' => e = .returned (.bool (P.any badC)) ∧ Below w.heap.size w w' := by
  have HC := Lib.hid (IndexCl_any v P w hv)
  clear hv
  go_enter Try.func10, Try.ntmps10
  go_wp2_with fail
  refine HC.out.mono ?_; rintro e w1 ⟨⟨z, rfl, hz⟩, hb⟩
  have HZ := Lib.hid hz; clear hz
  go_wp2
  go_ret
  exact ⟨by rw [← HZ.out]; rfl, hb⟩
theorem iPolicyOk_any (v : Value) (P : List ClD) (w : World) (hv : Cls w v P) :
    Calls Try.prog 5 #[v] w fun e w' => e = .returned (.bool (decide (PolOk P))) ∧ Below w.heap.size w w' := by
  obtain ⟨n, hn⟩ : ∃ n, Hid (P.length = n) := ⟨_, rfl⟩
  obtain ⟨ao, cap, rfl, -⟩ := hv.ex
  by_cases h5 : n ≤ 5
  · have d5 : (n : Int) ≤ 5 := by omega
    have hr : Hid (decide (PolOk P) = !(P.any badC)) := by
      show _ = _
      cases hb : P.any badC
      · rw [decide_eq_true (show PolOk P from ⟨hb, by rw [hn.out]; exact h5⟩)]; rfl
      · rw [decide_eq_false (show ¬ PolOk P from fun g => by rw [g.1] at hb; cases hb)]; rfl
    rw [hn.out] at hv ⊢
    go_enter Try.func5, Try.ntmps5
    go_wp2_with (go_at_call 10; go_must (refine (ContainsCl_any _ P _ hv).mono ?_); rintro e w1 ⟨rfl, hb⟩)
    go_ret
    exact ⟨by rw [hr.out]; rfl, hb⟩
  · have d5 : ¬ (n : Int) ≤ 5 := by omega
    have hr : Hid (decide (PolOk P) = false) := decide_eq_false fun g => h5 (by have := g.2; rwa [hn.out] at this)
    rw [hn.out] at hv ⊢
    go_enter Try.func5, Try.ntmps5
    go_wp2
    go_ret
    exact ⟨by rw [hr.out]; rfl, Below.refl _ _⟩
theorem sPolicyOk_any (v : Value) (P : List ClD) (w : World) (hv : Cls w v P) :
    Calls Try.prog 6 #[v] w fun e w' => e = .returned (.bool (decide (PolOk P))) ∧ Below w.heap.size w w' := by
  have hF := Fb.start w
  obtain ⟨n, cap, hn, hnc, hcap, ⟨hn0, ao, rfl⟩ | ⟨hn0, b0, off, rfl, hc⟩⟩ := hv.cases
  all_goals
    clear hv
    go_enter Try.func6, Try.ntmps6
    go_wp2
    go_loopw [3] (fun i wr => ∃ k : Nat, k ≤ n ∧ i = .int .i64 k ∧ Hid ((P.take k).any badC = false) ∧ Fb w wr []) (fun i _ => n - (intOf i).toNat)
    case atStart => exact ⟨0, Nat.zero_le _, rfl, rfl, hF⟩
    case round =>
      clear hF
      obtain ⟨k, hk, rfl, hany, hF⟩ := hrel
      by_cases hlt : k < n
      · try (exfalso; omega)
        all_goals
          obtain ⟨x, hx⟩ := get_of hn.out hlt
          have HX := Lib.hid hx; clear hx
          have c0 := hF.old (hc.out k x HX.out 0 _ rfl)
          have c1 := hF.old (hc.out k x HX.out 1 _ rfl)
          have c2 := hF.old (hc.out k x HX.out 2 _ rfl)
          have c3 := hF.old (hc.out k x HX.out 3 _ rfl)
          have c4 := hF.old (hc.out k x HX.out 4 _ rfl)
          have c5 := hF.old (hc.out k x HX.out 5 _ rfl)
          have c6 := hF.old (hc.out k x HX.out 6 _ rfl)
          have c7 := hF.old (hc.out k x HX.out 7 _ rfl)
          have HB : Hid (badC x = !decide (COk x.i x.n x.f x.b x.l x.m x.c)) := rfl
          obtain ⟨xi, xn, xf, xb, xr, xl, xm, xc⟩ := x
          dsimp only [Nat.add_zero] at c0 c1 c2 c3 c4 c5 c6 c7 HB
          by_cases hok : COk xi xn xf xb xl xm xc
          · have d1 : decide (COk xi xn xf xb xl xm xc) = true := decide_eq_true hok
            have hp := Lib.hid (any_step (p := badC) hany.out HX.out (by rw [HB.out, d1]; rfl))
            clear hok
            go_wp2_with (go_at_call 13; go_must (refine (sClauseOk_any xi xn xf xb xl xm xc xr _).mono ?_); rintro e w1 ⟨rfl, hb1⟩)
            go_roundw
            case rel => exact ⟨k + 1, by omega, by go_num, hp, hF.below hb1⟩
            case measure => simp [intOf]; omega
          · have d1 : decide (COk xi xn xf xb xl xm xc) = false := decide_eq_false hok
            have hp := Lib.hid (any_hit (p := badC) HX.out (by rw [HB.out, d1]; rfl))
            have hr : Hid (decide (PolOk P) = false) := decide_eq_false fun g => by have := g.1; rw [hp.out] at this; cases this
            clear hok
            go_wp2_with (go_at_call 13; go_must (refine (sClauseOk_any xi xn xf xb xl xm xc xr _).mono ?_); rintro e w1 ⟨rfl, hb1⟩)
            go_ret
            exact ⟨by rw [hr.out]; rfl, (hF.below hb1).kp⟩
      · have hp := Lib.hid (any_end (p := badC) hany.out (by rw [hn.out]; omega))
        have hr : Hid (decide (PolOk P) = decide ((n : Int) ≤ 5)) := decide_eq_decide.2 ⟨fun g => by have := g.2; have := hn.out; omega, fun g => ⟨hp.out, by have := hn.out; omega⟩⟩
        go_wp2
        go_ret
        exact ⟨by rw [hr.out]; simp, hF.kp⟩
end Go.Proofs.Ytgegmampnpgcaaa
