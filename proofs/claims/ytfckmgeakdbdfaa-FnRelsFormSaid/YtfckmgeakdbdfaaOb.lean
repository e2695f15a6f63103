/- Rows of numbers: is a number among them. -/
import Derived.Test.YtfckmgeakdbdfaaKa
import Derived.Test.YtfckmgeakdbdfaaMa
set_option linter.unusedSimpArgs false
set_option linter.unusedVariables false
namespace Go.Proofs.Ytfckmgeakdbdfaa
open Go.RowKit

theorem any_mem (L : List Int) (h : Int) : L.any (fun x => x == h) = decide (h ∈ L) := by
  rw [Bool.eq_iff_iff]; simp only [List.any_eq_true, decide_eq_true_eq, beq_iff_eq]
  exact ⟨fun ⟨x, h1, h2⟩ => h2 ▸ h1, fun h1 => ⟨h, h1, rfl⟩⟩
theorem l3Has_any (v : Value) (L : List Int) (h : Int) (w : World) (hv : Ints w v L) :
    Calls Try.prog 58 #[v, .int .i64 h] w fun e w' => e = .returned (.bool (decide (h ∈ L))) ∧ Below w.heap.size w w' := by
  have hF := Fb.start w
  rw [← any_mem]
  obtain ⟨n, cap, hn, hnc, hcap, ⟨hn0, ao, rfl⟩ | ⟨hn0, b0, off, rfl, hc⟩⟩ := hv.cases
  all_goals
    clear hv
    go_enter Try.func58, Try.ntmps58
    go_wp2
    go_loopw [5] (fun i wr => ∃ k : Nat, k ≤ n ∧ i = .int .i64 k ∧ Hid ((L.take k).any (fun x => x == h) = false) ∧ Fb w wr []) (fun i _ => n - (intOf i).toNat)
    case atStart => exact ⟨0, Nat.zero_le _, rfl, rfl, hF⟩
    case round =>
      clear hF
      obtain ⟨k, hk, rfl, hany, hF⟩ := hrel
      by_cases hlt : k < n
      · try (exfalso; omega)
        all_goals
          obtain ⟨x, hx⟩ := get_of hn.out hlt
          have HX := Lib.hid hx; clear hx
          have c0 := hF.old (hc.out k x HX.out)
          by_cases hxh : x = h
          · have hp := Lib.hid (any_hit (p := fun x => x == h) HX.out (by simp [hxh]))
            have d1 : (x == h) = true := by simp [hxh]
            clear hxh
            go_wp2
            go_ret
            exact ⟨by rw [hp.out]; rfl, hF.kp⟩
          · have hp := Lib.hid (any_step (p := fun x => x == h) hany.out HX.out (by simpa using hxh))
            have d1 : (x == h) = false := by simp [hxh]
            clear hxh
            go_wp2
            go_roundw
            case rel => exact ⟨k + 1, by omega, by go_num, hp, hF⟩
            case measure => simp [intOf]; omega
      · have hp := Lib.hid (any_end (p := fun x => x == h) hany.out (by rw [hn.out]; omega))
        go_wp2
        go_ret
        exact ⟨by rw [hp.out]; rfl, hF.kp⟩
theorem lyIn_any (v : Value) (L : List Int) (h : Int) (w : World) (hv : Ints w v L) :
    Calls Try.prog 32 #[v, .int .i64 h] w fun e w' => e = .returned (.bool (decide (h ∈ L))) ∧ Below w.heap.size w w' := by
  have hF := Fb.start w
  rw [← any_mem]
  obtain ⟨n, cap, hn, hnc, hcap, ⟨hn0, ao, rfl⟩ | ⟨hn0, b0, off, rfl, hc⟩⟩ := hv.cases
  all_goals
    clear hv
    go_enter Try.func32, Try.ntmps32
    go_wp2
    go_loopw [5] (fun i wr => ∃ k : Nat, k ≤ n ∧ i = .int .i64 k ∧ Hid ((L.take k).any (fun x => x == h) = false) ∧ Fb w wr []) (fun i _ => n - (intOf i).toNat)
    case atStart => exact ⟨0, Nat.zero_le _, rfl, rfl, hF⟩
    case round =>
      clear hF
      obtain ⟨k, hk, rfl, hany, hF⟩ := hrel
      by_cases hlt : k < n
      · try (exfalso; omega)
        all_goals
          obtain ⟨x, hx⟩ := get_of hn.out hlt
          have HX := Lib.hid hx; clear hx
          have c0 := hF.old (hc.out k x HX.out)
          by_cases hxh : x = h
          · have hp := Lib.hid (any_hit (p := fun x => x == h) HX.out (by simp [hxh]))
            have d1 : (x == h) = true := by simp [hxh]
            clear hxh
            go_wp2
            go_ret
            exact ⟨by rw [hp.out]; rfl, hF.kp⟩
          · have hp := Lib.hid (any_step (p := fun x => x == h) hany.out HX.out (by simpa using hxh))
            have d1 : (x == h) = false := by simp [hxh]
            clear hxh
            go_wp2
            go_roundw
            case rel => exact ⟨k + 1, by omega, by go_num, hp, hF⟩
            case measure => simp [intOf]; omega
      · have hp := Lib.hid (any_end (p := fun x => x == h) hany.out (by rw [hn.out]; omega))
        go_wp2
        go_ret
        exact ⟨by rw [hp.out]; rfl, hF.kp⟩
theorem Index_any (v : Value) (L : List Int) (h : Int) (w : World) (hv : Ints w v L) :
    Calls Try.prog 61 #[v, .int .i64 h] w fun e w' => (∃ z : Int, e = .returned (.int .i64 z) ∧ decide (0 ≤ z) = decide (h ∈ L)) ∧ Below w.heap.size w w' := by
  have hF := Fb.start w
  rw [← any_mem]
  obtain ⟨n, cap, hn, hnc, hcap, ⟨hn0, ao, rfl⟩ | ⟨hn0, b0, off, rfl, hc⟩⟩ := hv.cases
  all_goals
    clear hv
    go_enter Try.func61, Try.ntmps61
    go_wp2
    go_loopw [8] (fun i wr => ∃ k : Nat, k ≤ n ∧ i = .int .i64 k ∧ Hid ((L.take k).any (fun x => x == h) = false) ∧ Fb w wr []) (fun i _ => n - (intOf i).toNat)
    case atStart => exact ⟨0, Nat.zero_le _, rfl, rfl, hF⟩
    case round =>
      clear hF
      obtain ⟨k, hk, rfl, hany, hF⟩ := hrel
      by_cases hlt : k < n
      · try (exfalso; omega)
        all_goals
          obtain ⟨x, hx⟩ := get_of hn.out hlt
          have HX := Lib.hid hx; clear hx
          have c0 := hF.old (hc.out k x HX.out)
          by_cases hxh : h = x
          · have hp := Lib.hid (any_hit (p := fun x => x == h) HX.out (by simp [hxh]))
            have d1 : (h == x) = true := by simp [hxh]
            clear hxh
            go_wp2
            go_ret
            exact ⟨⟨_, rfl, by rw [hp.out]; simp⟩, hF.kp⟩
          · have hp := Lib.hid (any_step (p := fun x => x == h) hany.out HX.out (by simpa using fun e => hxh (Eq.symm e)))
            have d1 : (h == x) = false := by simp [hxh]
            clear hxh
            go_wp2
            go_roundw
            case rel => exact ⟨k + 1, by omega, by go_num, hp, hF⟩
            case measure => simp [intOf]; omega
      · have hp := Lib.hid (any_end (p := fun x => x == h) hany.out (by rw [hn.out]; omega))
        go_wp2
        go_ret
        exact ⟨⟨-1, rfl, by rw [hp.out]; simp⟩, hF.kp⟩
theorem Contains_any (v : Value) (L : List Int) (h : Int) (w : World) (hv : Ints w v L) :
    Calls Try.prog 60 #[v, .int .i64 h] w fun e w' => e = .returned (.bool (decide (h ∈ L))) ∧ Below w.heap.size w w' := by
  have HC := Lib.hid (Index_any v L h w hv)
  clear hv
  go_enter Try.func60, Try.ntmps60
  go_wp2_with fail
  refine HC.out.mono ?_; rintro e w1 ⟨⟨z, rfl, hz⟩, hb⟩
  have HZ := Lib.hid hz; clear hz
  go_wp2
  go_ret
  exact ⟨by rw [← HZ.out]; rfl, hb⟩
end Go.Proofs.Ytfckmgeakdbdfaa
