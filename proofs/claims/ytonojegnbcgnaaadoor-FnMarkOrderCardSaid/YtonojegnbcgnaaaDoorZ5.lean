/- Numbers in a row; houses. Houses. Paths: plain; trail.has, spec.PathOk. -/
import Derived.Test.YtonojegnbcgnaaaDoorZ4
set_option linter.unusedSimpArgs false
set_option linter.unusedVariables false
namespace Go.Proofs.YtonojegnbcgnaaaDoor
open Go.RowKit

theorem infoInt : (Tryd.prog.info? 3).map (fun i => (i.zero, i.size, i.bytes)) = some (some (.int .i64 0), 1, 8) := by kernel_rfl
theorem any_mem (L : List Int) (h : Int) : L.any (fun x => x == h) = decide (h ∈ L) := by
  rw [Bool.eq_iff_iff]; simp only [List.any_eq_true, decide_eq_true_eq, beq_iff_eq]
  exact ⟨fun ⟨x, h1, h2⟩ => h2 ▸ h1, fun h1 => ⟨h, h1, rfl⟩⟩
theorem l3Has_any (v : Value) (L : List Int) (h : Int) (w : World) (hv : Ints w v L) :
    Calls Tryd.prog 94 #[v, .int .i64 h] w fun e w' => e = .returned (.bool (decide (h ∈ L))) ∧ Below w.heap.size w w' := by
  have hF := Fb.start w
  rw [← any_mem]
  obtain ⟨n, cap, hn, hnc, hcap, ⟨hn0, ao, rfl⟩ | ⟨hn0, b0, off, rfl, hc⟩⟩ := hv.cases
  all_goals
    clear hv
    go_enter Tryd.func94, Tryd.ntmps94
    go_wp2
    go_loopw [5] (fun i wr => ∃ k : Nat, k ≤ n ∧ i = .int .i64 k ∧ Hid ((L.take k).any (fun x => x == h) = false) ∧ Fb w wr []) (fun i _ => n - (intOf i).toNat)
    case atStart => exact ⟨0, Nat.zero_le _, rfl, rfl, hF⟩
    case round =>
      clear hF
      obtain ⟨k, hk, rfl, hany, hF⟩ := hrel
      by_cases hlt : k < n
      · try (exfalso; omega)
        all_goals
          obtain ⟨x, hx⟩ := get_of hn.out hlt
          have HX := Lib.hid hx; clear hx
          have c0 := hF.old (hc.out k x HX.out)
          by_cases hxh : x = h
          · have hp := Lib.hid (any_hit (p := fun x => x == h) HX.out (by simp [hxh]))
            have d1 : (x == h) = true := by simp [hxh]
            clear hxh
            go_wp2
            go_ret
            exact ⟨by rw [hp.out]; rfl, hF.kp⟩
          · have hp := Lib.hid (any_step (p := fun x => x == h) hany.out HX.out (by simpa using hxh))
            have d1 : (x == h) = false := by simp [hxh]
            clear hxh
            go_wp2
            go_roundw
            case rel => exact ⟨k + 1, by omega, by go_num, hp, hF⟩
            case measure => simp [intOf]; omega
      · have hp := Lib.hid (any_end (p := fun x => x == h) hany.out (by rw [hn.out]; omega))
        go_wp2
        go_ret
        exact ⟨by rw [hp.out]; rfl, hF.kp⟩
theorem nodup_len : ∀ (L K : List Int), L.Nodup → (∀ x ∈ L, x ∈ K) → L.length ≤ K.length
  | [], K, _, _ => Nat.zero_le _
  | x :: L, K, hn, hs => by
    rw [List.nodup_cons] at hn
    have hx := hs x (List.mem_cons_self ..)
    have ih := nodup_len L (K.erase x) hn.2 (fun y hy => (List.mem_erase_of_ne (show y ≠ x from fun e => hn.1 (by rw [← e]; exact hy))).2 (hs y (List.mem_cons_of_mem _ hy)))
    rw [List.length_erase_of_mem hx] at ih
    have := List.length_pos_of_mem hx
    simp only [List.length_cons]; omega
end Go.Proofs.YtonojegnbcgnaaaDoor
set_option linter.unusedSimpArgs false
set_option linter.unusedVariables false
namespace Go.Proofs.YtonojegnbcgnaaaDoor
open Go.RowKit

theorem isHouse_any (n : Int) (w : World) :
    Calls Tryd.prog 63 #[.int .i64 n] w fun e w' => e = .returned (.bool (decide (Bts n 1 5))) ∧ Below w.heap.size w w' := by
  go_enter Tryd.func63, Tryd.ntmps63
  go_wp2
  all_goals (go_ret; refine ⟨ret_bool ?_, Below.refl _ _⟩; refine Bool.eq_iff_iff.2 ?_; (try simp); try (unfold Bts; first | (simp [*]; done) | (simp [*]; intros; omega) | omega))
theorem l3House_any (n : Int) (w : World) :
    Calls Tryd.prog 64 #[.int .i64 n] w fun e w' => e = .returned (.bool (decide (Bts n 1 5))) ∧ Below w.heap.size w w' := by
  go_enter Tryd.func64, Tryd.ntmps64
  go_wp2_with (go_at_call 39; refine (l6In_any _ _ _ _).mono ?_; rintro e w1 ⟨rfl, hb1⟩)
  go_ret
  exact ⟨rfl, hb1⟩
theorem isMark_any (n : Int) (w : World) :
    Calls Tryd.prog 42 #[.int .i64 n] w fun e w' => e = .returned (.bool (decide (Bts n 1 9))) ∧ Below w.heap.size w w' := by
  go_enter Tryd.func42, Tryd.ntmps42
  go_wp2
  all_goals (go_ret; refine ⟨ret_bool ?_, Below.refl _ _⟩; refine Bool.eq_iff_iff.2 ?_; (try simp); try (unfold Bts; first | (simp [*]; done) | (simp [*]; intros; omega) | omega))
end Go.Proofs.YtonojegnbcgnaaaDoor
set_option linter.unusedSimpArgs false
set_option linter.unusedVariables false
namespace Go.Proofs.YtonojegnbcgnaaaDoor
open Go.RowKit

/-- A path: houses, each once. -/
def POk (L : List Int) : Prop := (∀ x ∈ L, Bts x 1 5) ∧ L.Nodup
instance (L : List Int) : Decidable (POk L) := by unfold POk; infer_instance
theorem pok_nil : POk [] := ⟨fun x h => absurd h (List.not_mem_nil), List.nodup_nil⟩
theorem pok_snoc {K : List Int} {x : Int} : POk (K ++ [x]) ↔ POk K ∧ Bts x 1 5 ∧ x ∉ K := by
  unfold POk
  rw [List.nodup_append]
  constructor
  · rintro ⟨h1, h2, _, h3⟩
    exact ⟨⟨fun y hy => h1 y (List.mem_append_left _ hy), h2⟩, h1 x (by simp), fun hx => h3 x hx x (by simp) rfl⟩
  · rintro ⟨⟨h1, h2⟩, h3, h4⟩
    refine ⟨fun y hy => ?_, h2, by simp, fun a ha b hb e => ?_⟩
    · rcases List.mem_append.1 hy with h | h
      · exact h1 y h
      · rw [List.mem_singleton.1 h]; exact h3
    · rw [List.mem_singleton.1 hb] at e; subst e; exact h4 ha
theorem take_snoc {α : Type} {L : List α} {k : Nat} {x : α} (h : L[k]? = some x) : L.take (k + 1) = L.take k ++ [x] := by
  rw [List.take_add_one, h]; rfl
theorem pok_sub {L K : List Int} (h : POk L) (hs : K.Sublist L) : POk K := ⟨fun x hx => h.1 x (hs.subset hx), h.2.sublist hs⟩
theorem pok_take {L : List Int} (h : POk L) (k : Nat) : POk (L.take k) := pok_sub h (List.take_sublist k L)
theorem pok_drop {L : List Int} (h : POk L) (k : Nat) : POk (L.drop k) := pok_sub h (List.drop_sublist k L)
theorem pok_len {L : List Int} (h : POk L) : L.length ≤ 5 := by
  refine nodup_len L [1, 2, 3, 4, 5] h.2 fun x hx => ?_
  have := h.1 x hx
  unfold Bts at this
  have : x = 1 ∨ x = 2 ∨ x = 3 ∨ x = 4 ∨ x = 5 := by omega
  simpa using this
theorem pok_step {L : List Int} {k : Nat} {x : Int} (hx : L[k]? = some x) : POk (L.take (k + 1)) ↔ POk (L.take k) ∧ Bts x 1 5 ∧ x ∉ L.take k := by
  rw [take_snoc hx, pok_snoc]
theorem pok_bad {L : List Int} {k : Nat} {x : Int} (hx : L[k]? = some x) (h : ¬ (Bts x 1 5 ∧ x ∉ L.take k)) : decide (POk L) = false :=
  decide_eq_false fun g => h ((pok_step hx).1 (pok_take g (k + 1))).2
/-- The bits of a path. -/
def encB (a b c d e : Bool) : Int := (if a then 2 else 0) + (if b then 4 else 0) + (if c then 8 else 0) + (if d then 16 else 0) + (if e then 32 else 0)
def msk (K : List Int) : Int := encB (decide (1 ∈ K)) (decide (2 ∈ K)) (decide (3 ∈ K)) (decide (4 ∈ K)) (decide (5 ∈ K))
def hasM (m h : Int) : Bool := bits .and .u64 (m / 2 ^ h.toNat) 1 == 1
theorem hasM_enc (a b c d e : Bool) : hasM (encB a b c d e) 1 = a ∧ hasM (encB a b c d e) 2 = b ∧ hasM (encB a b c d e) 3 = c ∧ hasM (encB a b c d e) 4 = d ∧ hasM (encB a b c d e) 5 = e := by
  cases a <;> cases b <;> cases c <;> cases d <;> cases e <;> (refine ⟨?_, ?_, ?_, ?_, ?_⟩ <;> kernel_rfl)
theorem hasM_msk {K : List Int} {h : Int} (hh : Bts h 1 5) : hasM (msk K) h = decide (h ∈ K) := by
  obtain ⟨e1, e2, e3, e4, e5⟩ := hasM_enc (decide (1 ∈ K)) (decide (2 ∈ K)) (decide (3 ∈ K)) (decide (4 ∈ K)) (decide (5 ∈ K))
  unfold Bts at hh
  have : h = 1 ∨ h = 2 ∨ h = 3 ∨ h = 4 ∨ h = 5 := by omega
  rcases this with rfl | rfl | rfl | rfl | rfl
  · exact e1
  · exact e2
  · exact e3
  · exact e4
  · exact e5
theorem cell_new2a (w : World) (u v : Value) (T : TypeId) : (w.alloc (.cells #[u, v] T)).cell? ⟨w.heap.size, 0, none⟩ = some u := by simp
theorem cell_new2b (w : World) (u v : Value) (T : TypeId) : (w.alloc (.cells #[u, v] T)).cell? ⟨w.heap.size, 1, none⟩ = some v := by simp
theorem has_any (K : List Int) (h : Int) (v : Value) (w : World) :
    Calls Tryd.prog 109 #[.agg #[.int .u64 (msk K), v], .int .i64 h] w fun e w' => e = .returned (.bool (decide (Bts h 1 5 ∧ h ∈ K))) ∧ Below w.heap.size w w' := by
  by_cases hh : Bts h 1 5
  · have d1 : decide (Bts h 1 5) = true := by simp [hh]
    have e1 : hasM (msk K) h = decide (h ∈ K) := hasM_msk hh
    unfold hasM at e1
    have h0 : 0 ≤ h := by unfold Bts at hh; omega
    have h5 : h ≤ 5 := by unfold Bts at hh; omega
    have hB : Below w.heap.size w (w.alloc (.cells #[.int .u64 (msk K), v] 114)) := (Below.refl _ _).alloc (Nat.le_refl _) _
    have hr : decide (Bts h 1 5 ∧ h ∈ K) = decide (h ∈ K) := by simp [hh]
    rw [hr]
    clear hh hr
    go_enter Tryd.func109, Tryd.ntmps109
    go_wp2_with (go_at_call 63; refine (isHouse_any _ _).mono ?_; rintro e w1 ⟨rfl, hb1⟩; replace hB := hB.trans (hb1.mono hB.size); obtain ⟨c0, c1⟩ : w1.cell? ⟨w.heap.size, 0, none⟩ = some (.int .u64 (msk K)) ∧ w1.cell? ⟨w.heap.size, 1, none⟩ = some v := ⟨(hb1.cell (by simp)).trans (cell_new2a _ _ _ _), (hb1.cell (by simp)).trans (cell_new2b _ _ _ _)⟩)
    go_ret
    exact ⟨rfl, hB⟩
  · have d1 : decide (Bts h 1 5) = false := by simp [hh]
    have hr : decide (Bts h 1 5 ∧ h ∈ K) = false := by simp [hh]
    have hB : Below w.heap.size w (w.alloc (.cells #[.int .u64 (msk K), v] 114)) := (Below.refl _ _).alloc (Nat.le_refl _) _
    rw [hr]
    clear hh hr
    go_enter Tryd.func109, Tryd.ntmps109
    go_wp2_with (go_at_call 63; refine (isHouse_any _ _).mono ?_; rintro e w1 ⟨rfl, hb1⟩; replace hB := hB.trans (hb1.mono hB.size))
    go_ret
    exact ⟨rfl, hB⟩
end Go.Proofs.YtonojegnbcgnaaaDoor
