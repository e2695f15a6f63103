/- Holds: the walks. -/
import Derived.Test.YtgajgjhanpnbdaaDd
import Derived.Test.YtgajgjhanpnbdaaB3
set_option linter.unusedSimpArgs false
set_option linter.unusedVariables false
namespace Go.Proofs.Ytgajgjhanpnbdaa
open Go.RowKit

structure HoldD where
  h : Int
  f : Int
  b : Int
def HoldD.enc (x : HoldD) : List Value := [.int .i64 x.h, .int .i64 x.f, .int .i64 x.b]
def holdsP (h f b : Int) (x : HoldD) : Bool := decide (x.h = h ∧ RIn f b x.f x.b)

theorem l13Holds_any (v : Value) (L : List HoldD) (h f b : Int) (w : World) (hv : Rows w v 3 HoldD.enc L) :
    Calls Try.prog 64 #[v, .int .i64 h, .agg #[.int .i64 f, .int .i64 b]] w fun e w' => e = .returned (.bool (L.any (holdsP h f b))) ∧ Below w.heap.size w w' := by
  have hF := (Fb.start w).alloc [.int .i64 f, .int .i64 b] 24
  obtain ⟨n, cap, hn, hnc, hcap, ⟨hn0, ao, rfl⟩ | ⟨hn0, b0, off, rfl, hc⟩⟩ := hv.cases
  all_goals
    clear hv
    go_enter Try.func64, Try.ntmps64
    go_wp2
    go_loopw [7] (fun i wr => ∃ k : Nat, k ≤ n ∧ i = .int .i64 k ∧ Hid ((L.take k).any (holdsP h f b) = false) ∧ Fb w wr [(w.heap.size, [.int .i64 f, .int .i64 b])]) (fun i _ => n - (intOf i).toNat)
    case atStart => exact ⟨0, Nat.zero_le _, rfl, rfl, hF⟩
    case round =>
      clear hF
      obtain ⟨k, hk, rfl, hany, hF⟩ := hrel
      by_cases hlt : k < n
      · try (exfalso; omega)
        all_goals
          obtain ⟨x, hx⟩ := get_of hn.out hlt
          have HX := Lib.hid hx; clear hx
          have c0 := hc.out k x HX.out 0 _ rfl
          have c1 := hc.out k x HX.out 1 _ rfl
          have c2 := hc.out k x HX.out 2 _ rfl
          obtain ⟨xh, xf, xb⟩ := x
          dsimp only [Nat.add_zero] at c0 c1 c2
          have cc0 := fun x : Cl wr.heap.size wr => Cl.old hF x c0
          have cc1 := fun x : Cl wr.heap.size wr => Cl.old hF x c1
          have cc2 := fun x : Cl wr.heap.size wr => Cl.old hF x c2
          have oc := fun x : Cl _ wr => (Fb.cl hF x).own; simp only [World.size_alloc, World.size_drew, World.size_setCell, List.mem_cons, List.not_mem_nil, or_false, forall_eq_or_imp, forall_eq, At, and_true, Nat.zero_add, Nat.reduceAdd, List.set_cons_zero, List.set_cons_succ] at oc
          clear c0 c1 c2
          by_cases hh : xh = h
          · subst hh
            go_wp2
            first | refine wp_region_new (by kernel_rfl) (by kernel_rfl) ?_ | refine wp_region_lex ?_
            repeat (any_goals (first | go_big_quiet_step (((go_at_call 22; exact Calls.cl (sRangeIn_any _ _ _ _ _)))) | (refine wpQuiet_step (fun K hK => ?_); go_simp; split <;> (rename_i hg; refine hK _ ?_; clear hK K; simp only [hg, decide_true, decide_false]))))
            all_goals (refine wpQuiet_nil ?_; intro x)
            by_cases hr : RIn f b xf xb
            · have hd : decide (RIn f b xf xb) = true := by simp [hr]
              have hp : L.any (holdsP xh f b) = true := any_hit HX.out (by simp [holdsP, hr])
              have HH := Lib.hid hp; clear hp
              go_wp2
              go_ret
              exact ⟨by rw [HH.out]; rfl, (hF.cl x).kp⟩
            · have hd : decide (RIn f b xf xb) = false := by simp [hr]
              have hp := Lib.hid (any_step (p := holdsP xh f b) hany.out HX.out (by simp [holdsP, hr]))
              go_wp2
              go_roundw
              case rel => exact ⟨k + 1, by omega, by go_num, hp, hF.cl x⟩
              case measure => simp [intOf]; omega
          · have hb : (xh == h) = false := by simp [hh]
            have hp := Lib.hid (any_step (p := holdsP h f b) hany.out HX.out (by simp [holdsP, hh]))
            go_wp2
            first | refine wp_region_new (by kernel_rfl) (by kernel_rfl) ?_ | refine wp_region_lex ?_
            repeat (any_goals (first | go_big_quiet_step ((fail)) | (refine wpQuiet_step (fun K hK => ?_); go_simp; split <;> (rename_i hg; refine hK _ ?_; clear hK K; simp only [hg, decide_true, decide_false]))))
            all_goals (refine wpQuiet_nil ?_; intro x)
            go_wp2
            go_roundw
            case rel => exact ⟨k + 1, by omega, by go_num, hp, hF.cl x⟩
            case measure => simp [intOf]; omega
      · have hp := Lib.hid (any_end (p := holdsP h f b) hany.out (by rw [hn.out]; omega))
        go_wp2
        go_ret
        exact ⟨by rw [hp.out]; rfl, hF.kp⟩
end Go.Proofs.Ytgajgjhanpnbdaa
