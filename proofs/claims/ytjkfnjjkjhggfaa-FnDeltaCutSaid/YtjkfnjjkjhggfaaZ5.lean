/- errors.Is at a sentinel: nil, itself, a joined error whose first one it is. After the kit's SentryIs. strconv.Itoa of a digit, errors.New, errors.Join of two. Numbers in a row; houses. -/
import Derived.Test.YtjkfnjjkjhggfaaZ3
import Derived.Test.YtjkfnjjkjhggfaaChecked
import Derived.LaidEql
import Derived.Stop.Asserts
import Derived.RowKitTokens
import Derived.Laws.MakeOwn
import Derived.Deep.AppendLies
import Derived.RangeFuncBox
import Derived.Test.YtjkfnjjkjhggfaaZ4
set_option linter.unusedSimpArgs false
set_option linter.unusedVariables false
namespace Go.Proofs.Ytjkfnjjkjhggfaa
open Go.RowKit Go.Extern.Stop Go.Stop Go.Extern

noncomputable def cmpE : Array Value → Sem Value := Extern.ReflectliteType.method fun t => do Rtype.noPackHeld "Comparable" t; pure (.bool (← typeInfo t).comparable)
end Go.Proofs.Ytjkfnjjkjhggfaa
set_option linter.unusedSimpArgs false
set_option linter.unusedVariables false
namespace Go.Proofs.Ytjkfnjjkjhggfaa
open Go.RowKit

end Go.Proofs.Ytjkfnjjkjhggfaa
set_option linter.unusedSimpArgs false
set_option linter.unusedVariables false
namespace Go.Proofs.Ytjkfnjjkjhggfaa
open Go.RowKit

theorem infoInt : (Try.prog.info? 3).map (fun i => (i.zero, i.size, i.bytes)) = some (some (.int .i64 0), 1, 8) := by kernel_rfl
theorem any_mem (L : List Int) (h : Int) : L.any (fun x => x == h) = decide (h ∈ L) := by
  rw [Bool.eq_iff_iff]; simp only [List.any_eq_true, decide_eq_true_eq, beq_iff_eq]
  exact ⟨fun ⟨x, h1, h2⟩ => h2 ▸ h1, fun h1 => ⟨h, h1, rfl⟩⟩
theorem l3Has_any (v : Value) (L : List Int) (h : Int) (w : World) (hv : Ints w v L) :
    Calls Try.prog 55 #[v, .int .i64 h] w fun e w' => e = .returned (.bool (decide (h ∈ L))) ∧ Below w.heap.size w w' := by
  have hF := Fb.start w
  rw [← any_mem]
  obtain ⟨n, cap, hn, hnc, hcap, ⟨hn0, ao, rfl⟩ | ⟨hn0, b0, off, rfl, hc⟩⟩ := hv.cases
  all_goals
    clear hv
    go_enter Try.func55, Try.ntmps55
    go_wp2
    go_loopw [5] (fun i wr => ∃ k : Nat, k ≤ n ∧ i = .int .i64 k ∧ Hid ((L.take k).any (fun x => x == h) = false) ∧ Fb w wr []) (fun i _ => n - (intOf i).toNat)
    case atStart => exact ⟨0, Nat.zero_le _, rfl, rfl, hF⟩
    case round =>
      clear hF
      obtain ⟨k, hk, rfl, hany, hF⟩ := hrel
      by_cases hlt : k < n
      · try (exfalso; omega)
        all_goals
          obtain ⟨x, hx⟩ := get_of hn.out hlt
          have HX := Lib.hid hx; clear hx
          have c0 := hF.old (hc.out k x HX.out)
          by_cases hxh : x = h
          · have hp := Lib.hid (any_hit (p := fun x => x == h) HX.out (by simp [hxh]))
            have d1 : (x == h) = true := by simp [hxh]
            clear hxh
            go_wp2
            go_ret
            exact ⟨by rw [hp.out]; rfl, hF.kp⟩
          · have hp := Lib.hid (any_step (p := fun x => x == h) hany.out HX.out (by simpa using hxh))
            have d1 : (x == h) = false := by simp [hxh]
            clear hxh
            go_wp2
            go_roundw
            case rel => exact ⟨k + 1, by omega, by go_num, hp, hF⟩
            case measure => simp [intOf]; omega
      · have hp := Lib.hid (any_end (p := fun x => x == h) hany.out (by rw [hn.out]; omega))
        go_wp2
        go_ret
        exact ⟨by rw [hp.out]; rfl, hF.kp⟩
theorem nodup_len : ∀ (L K : List Int), L.Nodup → (∀ x ∈ L, x ∈ K) → L.length ≤ K.length
  | [], K, _, _ => Nat.zero_le _
  | x :: L, K, hn, hs => by
    rw [List.nodup_cons] at hn
    have hx := hs x (List.mem_cons_self ..)
    have ih := nodup_len L (K.erase x) hn.2 (fun y hy => (List.mem_erase_of_ne (show y ≠ x from fun e => hn.1 (by rw [← e]; exact hy))).2 (hs y (List.mem_cons_of_mem _ hy)))
    rw [List.length_erase_of_mem hx] at ih
    have := List.length_pos_of_mem hx
    simp only [List.length_cons]; omega
end Go.Proofs.Ytjkfnjjkjhggfaa
