/- Where a route of a range stands among routes. -/
import Derived.Test.YtjkfnjjkjhggfaaZ16
set_option linter.unusedSimpArgs false
set_option linter.unusedVariables false
namespace Go.Proofs.Ytjkfnjjkjhggfaa
open Go.RowKit

set_option maxHeartbeats 4000000 in
theorem l23At_any (v : Value) (L : List Rt) (f b : Int) (w : World) (hv : Rts w v L) :
    Calls Try.prog 45 #[v, .agg #[.int .i64 f, .int .i64 b]] w fun e w' => ∃ N : Int, e = .returned (.int .i64 N) ∧ (-1 ≤ N ∧ N < (L.length : Int)) ∧ Below w.heap.size w w' := by
  have hF := (Fb.start w).alloc [.int .i64 f, .int .i64 b] 62
  obtain ⟨ao, n, cap, rfl, hn, hnc, hcap⟩ := GLs.sl hv
  have HV := Lib.hid hv
  clear hv
  obtain ⟨n0, hn0⟩ : ∃ n0, w.heap.size = n0 := ⟨_, rfl⟩
  rw [hn0] at hF
  go_enter Try.func45, Try.ntmps45
  go_wp2
  go_loopw [5] (fun s5 wr => ∃ k : Nat, k ≤ n ∧ s5 = .int .i64 k ∧ Fb w wr [(n0, [.int .i64 f, .int .i64 b])]) (fun i _ => n - (intOf i).toNat)
  case atStart => exact ⟨0, Nat.zero_le _, rfl, hF⟩
  case round =>
    clear hF
    obtain ⟨k, hk, rfl, hF⟩ := hrel
    by_cases hlt : k < n
    · obtain ⟨b1, p1, rfl⟩ := GLs.adr HV.out (by omega)
      obtain ⟨s, hs⟩ := get_of hn.out hlt
      obtain ⟨g, c, lk, P, M⟩ := s
      obtain ⟨a1, m1, c1, a2, m2, c2, e0, e1, -, -, -, -, -⟩ := Rts.at HV.out hs
      clear hs
      have oc := fun x : Cl _ wr => (Fb.cl hF x).own; simp only [World.size_alloc, World.size_drew, World.size_setCell, List.mem_cons, List.not_mem_nil, or_false, forall_eq_or_imp, forall_eq, At, and_true, Nat.zero_add, Nat.reduceAdd, List.set_cons_zero, List.set_cons_succ] at oc
      have x0 := fun z : Cl wr.heap.size wr => Cl.old hF z e0
      have x1 := fun z : Cl wr.heap.size wr => Cl.old hF z e1
      clear e0 e1
      by_cases hfb : g = f ∧ c = b
      · have heql : ∀ w, (binOp .eql 62 (.agg #[.int .i64 g, .int .i64 c]) (.agg #[.int .i64 f, .int .i64 b])).run Try.prog w = .ok (.bool true) w := fun w => by rw [rng_eql]; simp [hfb]
        clear hfb
        go_wp2
        first | refine wp_region_new (by kernel_rfl) (by kernel_rfl) ?_ | refine wp_region_lex ?_
        repeat (any_goals (first | go_big_quiet_step ((fail)) | (refine wpQuiet_step (fun K hK => ?_); go_simp; split <;> (rename_i hg; refine hK _ ?_; clear hK K; simp only [hg, decide_true, decide_false]))))
        all_goals (refine wpQuiet_nil ?_; intro x)
        go_wp2
        go_ret
        exact ⟨_, rfl, ⟨by omega, by have := hn.out; omega⟩, (hF.cl ‹_›).kp⟩
      · have heql : ∀ w, (binOp .eql 62 (.agg #[.int .i64 g, .int .i64 c]) (.agg #[.int .i64 f, .int .i64 b])).run Try.prog w = .ok (.bool false) w := fun w => by rw [rng_eql]; simp; exact fun e1 e2 => hfb ⟨e1, e2⟩
        clear hfb
        go_wp2
        first | refine wp_region_new (by kernel_rfl) (by kernel_rfl) ?_ | refine wp_region_lex ?_
        repeat (any_goals (first | go_big_quiet_step ((fail)) | (refine wpQuiet_step (fun K hK => ?_); go_simp; split <;> (rename_i hg; refine hK _ ?_; clear hK K; simp only [hg, decide_true, decide_false]))))
        all_goals (refine wpQuiet_nil ?_; intro x)
        go_wp2
        go_roundw
        case rel => exact ⟨k + 1, by omega, by go_num, hF.cl ‹_›⟩
        case measure => simp [intOf]; omega
    · go_wp2
      go_ret
      exact ⟨_, rfl, ⟨by omega, by have := hn.out; omega⟩, hF.kp⟩
end Go.Proofs.Ytjkfnjjkjhggfaa
