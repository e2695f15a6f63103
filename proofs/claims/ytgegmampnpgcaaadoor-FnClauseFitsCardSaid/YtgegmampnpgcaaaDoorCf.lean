/- Does a route fit a clause: by both. -/
import Derived.Test.YtgegmampnpgcaaaDoorCa
import Derived.Test.YtgegmampnpgcaaaDoorVb
import Derived.Test.YtgegmampnpgcaaaDoorR2
import Derived.Test.YtgegmampnpgcaaaDoorEe
set_option linter.unusedSimpArgs false
set_option linter.unusedVariables false
namespace Go.Proofs.YtgegmampnpgcaaaDoor
open Go.RowKit

theorem Index_any (v : Value) (L : List Int) (h : Int) (w : World) (hv : Ints w v L) :
    Calls Tryd.prog 122 #[v, .int .i64 h] w fun e w' => (∃ z : Int, e = .returned (.int .i64 z) ∧ decide (0 ≤ z) = decide (h ∈ L)) ∧ Below w.heap.size w w' := by
  have hF := Fb.start w
  obtain ⟨n, cap, hn, hnc, hcap, ⟨hn0, ao, rfl⟩ | ⟨hn0, b0, off, rfl, hc⟩⟩ := hv.cases
  all_goals
    clear hv
    go_enter Tryd.func122, Tryd.ntmps122
    go_wp2
    go_loopw [8] (fun i wr => ∃ k : Nat, k ≤ n ∧ i = .int .i64 k ∧ Hid ((L.take k).any (fun x => x == h) = false) ∧ Fb w wr []) (fun i _ => n - (intOf i).toNat)
    case atStart => exact ⟨0, Nat.zero_le _, rfl, rfl, hF⟩
    case round =>
      clear hF
      obtain ⟨k, hk, rfl, hany, hF⟩ := hrel
      by_cases hlt : k < n
      · try (exfalso; omega)
        all_goals
          obtain ⟨x, hx⟩ := get_of hn.out hlt
          have HX := Lib.hid hx; clear hx
          have c0 := hF.old (hc.out k x HX.out)
          by_cases hxh : h = x
          · have hp := Lib.hid (any_hit (p := fun x => x == h) HX.out (by simp [hxh]))
            have d1 : (h == x) = true := by simp [hxh]
            clear hxh
            go_wp2
            go_ret
            exact ⟨⟨_, rfl, by rw [← any_mem, hp.out]; simp⟩, hF.kp⟩
          · have hp := Lib.hid (any_step (p := fun x => x == h) hany.out HX.out (by simpa using fun e => hxh e.symm))
            have d1 : (h == x) = false := by simp [hxh]
            clear hxh
            go_wp2
            go_roundw
            case rel => exact ⟨k + 1, by omega, by go_num, hp, hF⟩
            case measure => simp [intOf]; omega
      · have hp := Lib.hid (any_end (p := fun x => x == h) hany.out (by rw [hn.out]; omega))
        go_wp2
        go_ret
        exact ⟨⟨-1, rfl, by rw [← any_mem, hp.out]; simp⟩, hF.kp⟩
theorem Contains_any (v : Value) (L : List Int) (h : Int) (w : World) (hv : Ints w v L) :
    Calls Tryd.prog 121 #[v, .int .i64 h] w fun e w' => e = .returned (.bool (decide (h ∈ L))) ∧ Below w.heap.size w w' := by
  have HC := Lib.hid (Index_any v L h w hv)
  clear hv
  go_enter Tryd.func121, Tryd.ntmps121
  go_wp2_with fail
  refine HC.out.mono ?_; rintro e w1 ⟨⟨z, rfl, hz⟩, hb⟩
  have HZ := Lib.hid hz; clear hz
  go_wp2
  go_ret
  exact ⟨by rw [← HZ.out]; rfl, hb⟩
theorem fitsAll (g c lk : Int) (pv mv : Value) (w : World) :
    Calls Tryd.prog 118 #[.agg #[], .agg #[.int .i64 g, .int .i64 c, pv, .int .i64 lk, mv]] w fun e w' => e = .returned (.bool true) ∧ Below w.heap.size w w' := by
  go_enter Tryd.func118, Tryd.ntmps118
  go_wp2
  go_ret
  exact ⟨rfl, (by repeat (first | exact Below.refl _ _ | assumption | (refine Below.setCell ?_ (by dsimp only; omega) _) | (refine Below.alloc ?_ (by first | (simp only [World.size_alloc, World.size_setCell, World.size_drew]; omega) | omega) _) | apply Below.drew | (refine Below.trans ?_ (Below.mono (by assumption) (by first | (simp only [World.size_alloc, World.size_setCell, World.size_drew]; omega) | omega)))))⟩
theorem fitsRange (f b g c lk : Int) (pv mv : Value) (w : World) :
    Calls Tryd.prog 119 #[.agg #[.int .i64 f, .int .i64 b], .agg #[.int .i64 g, .int .i64 c, pv, .int .i64 lk, mv]] w fun e w' => e = .returned (.bool (decide (RIn g c f b))) ∧ Below w.heap.size w w' := by
  have hF := ((Fb.start w).alloc [.int .i64 f, .int .i64 b] 86).alloc [.int .i64 g, .int .i64 c, pv, .int .i64 lk, mv] 29
  go_enter Tryd.func119, Tryd.ntmps119
  go_wp2_with (go_at_call 15; go_must (refine (iRangeIn_any _ _ _ _ _).mono ?_); rintro e wx ⟨rfl, hbx⟩)
  go_ret
  exact ⟨rfl, (hF.below hbx).kp⟩
theorem fitsMark (n g c lk : Int) (pv mv : Value) (M : List Int) (w : World) (hm : Ints w mv M) :
    Calls Tryd.prog 120 #[.int .i64 n, .agg #[.int .i64 g, .int .i64 c, pv, .int .i64 lk, mv]] w fun e w' => e = .returned (.bool (decide (n ∈ M))) ∧ Below w.heap.size w w' := by
  have hF := (Fb.start w).alloc [.int .i64 g, .int .i64 c, pv, .int .i64 lk, mv] 29
  have HM := Lib.hid (Rows.below hm hF.kp)
  go_enter Tryd.func120, Tryd.ntmps120
  go_wp2_with (go_at_call 121; go_must (refine (Contains_any _ M _ _ HM.out).mono ?_); rintro e wx ⟨rfl, hbx⟩)
  go_ret
  exact ⟨rfl, (hF.below hbx).kp⟩
theorem fitsHouse (n g c lk : Int) (pv mv : Value) (P : List Int) (a : Addr) (w : World) (hp : Ints w pv P) (hE : EPath w a) :
    Calls Tryd.prog 123 #[.int .i64 n, .agg #[.int .i64 g, .int .i64 c, pv, .int .i64 lk, mv]] w fun e w' => e = .returned (.bool (decide (Has P n))) ∧ Below w.heap.size w w' := by
  have hF := (Fb.start w).alloc [.int .i64 g, .int .i64 c, pv, .int .i64 lk, mv] 29
  have HP := Lib.hid (Rows.below hp hF.kp)
  have HE := Lib.hid (hE.below hF.kp)
  go_enter Tryd.func123, Tryd.ntmps123
  go_wp2_with (go_at_call 17; go_must (refine (iPathHas_any _ P _ a _ HP.out HE.out).mono ?_); rintro e wx ⟨rfl, hbx⟩)
  go_ret
  exact ⟨rfl, (hF.below hbx).kp⟩
theorem fitsShort (n g c lk : Int) (o : Option Addr) (m k : Nat) (mv : Value) (w : World) :
    Calls Tryd.prog 124 #[.int .i64 n, .agg #[.int .i64 g, .int .i64 c, .slice o m k, .int .i64 lk, mv]] w fun e w' => e = .returned (.bool (decide ((m : Int) ≤ n))) ∧ Below w.heap.size w w' := by
  go_enter Tryd.func124, Tryd.ntmps124
  go_wp2
  go_ret
  exact ⟨rfl, (by repeat (first | exact Below.refl _ _ | assumption | (refine Below.setCell ?_ (by dsimp only; omega) _) | (refine Below.alloc ?_ (by first | (simp only [World.size_alloc, World.size_setCell, World.size_drew]; omega) | omega) _) | apply Below.drew | (refine Below.trans ?_ (Below.mono (by assumption) (by first | (simp only [World.size_alloc, World.size_setCell, World.size_drew]; omega) | omega)))))⟩
end Go.Proofs.YtgegmampnpgcaaaDoor
