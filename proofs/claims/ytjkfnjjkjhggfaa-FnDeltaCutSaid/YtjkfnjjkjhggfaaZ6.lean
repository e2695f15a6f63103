/- Houses. Paths: plain; trail.has, spec.PathOk. Paths: spec.PathOk, readTrail, impl.PathOk. -/
import Derived.Test.YtjkfnjjkjhggfaaZ5
set_option linter.unusedSimpArgs false
set_option linter.unusedVariables false
namespace Go.Proofs.Ytjkfnjjkjhggfaa
open Go.RowKit

theorem l3House_any (n : Int) (w : World) :
    Calls Try.prog 62 #[.int .i64 n] w fun e w' => e = .returned (.bool (decide (Bts n 1 5))) ∧ Below w.heap.size w w' := by
  go_enter Try.func62, Try.ntmps62
  go_wp2_with (go_at_call 22; refine (l6In_any _ _ _ _).mono ?_; rintro e w1 ⟨rfl, hb1⟩)
  go_ret
  exact ⟨rfl, hb1⟩
end Go.Proofs.Ytjkfnjjkjhggfaa
set_option linter.unusedSimpArgs false
set_option linter.unusedVariables false
namespace Go.Proofs.Ytjkfnjjkjhggfaa
open Go.RowKit

/-- A path: houses, each once. -/
def POk (L : List Int) : Prop := (∀ x ∈ L, Bts x 1 5) ∧ L.Nodup
instance (L : List Int) : Decidable (POk L) := by unfold POk; infer_instance
theorem pok_nil : POk [] := ⟨fun x h => absurd h (List.not_mem_nil), List.nodup_nil⟩
theorem pok_snoc {K : List Int} {x : Int} : POk (K ++ [x]) ↔ POk K ∧ Bts x 1 5 ∧ x ∉ K := by
  unfold POk
  rw [List.nodup_append]
  constructor
  · rintro ⟨h1, h2, _, h3⟩
    exact ⟨⟨fun y hy => h1 y (List.mem_append_left _ hy), h2⟩, h1 x (by simp), fun hx => h3 x hx x (by simp) rfl⟩
  · rintro ⟨⟨h1, h2⟩, h3, h4⟩
    refine ⟨fun y hy => ?_, h2, by simp, fun a ha b hb e => ?_⟩
    · rcases List.mem_append.1 hy with h | h
      · exact h1 y h
      · rw [List.mem_singleton.1 h]; exact h3
    · rw [List.mem_singleton.1 hb] at e; subst e; exact h4 ha
theorem take_snoc {α : Type} {L : List α} {k : Nat} {x : α} (h : L[k]? = some x) : L.take (k + 1) = L.take k ++ [x] := by
  rw [List.take_add_one, h]; rfl
theorem pok_sub {L K : List Int} (h : POk L) (hs : K.Sublist L) : POk K := ⟨fun x hx => h.1 x (hs.subset hx), h.2.sublist hs⟩
theorem pok_take {L : List Int} (h : POk L) (k : Nat) : POk (L.take k) := pok_sub h (List.take_sublist k L)
theorem pok_drop {L : List Int} (h : POk L) (k : Nat) : POk (L.drop k) := pok_sub h (List.drop_sublist k L)
theorem pok_len {L : List Int} (h : POk L) : L.length ≤ 5 := by
  refine nodup_len L [1, 2, 3, 4, 5] h.2 fun x hx => ?_
  have := h.1 x hx
  unfold Bts at this
  have : x = 1 ∨ x = 2 ∨ x = 3 ∨ x = 4 ∨ x = 5 := by omega
  simpa using this
theorem pok_step {L : List Int} {k : Nat} {x : Int} (hx : L[k]? = some x) : POk (L.take (k + 1)) ↔ POk (L.take k) ∧ Bts x 1 5 ∧ x ∉ L.take k := by
  rw [take_snoc hx, pok_snoc]
theorem pok_bad {L : List Int} {k : Nat} {x : Int} (hx : L[k]? = some x) (h : ¬ (Bts x 1 5 ∧ x ∉ L.take k)) : decide (POk L) = false :=
  decide_eq_false fun g => h ((pok_step hx).1 (pok_take g (k + 1))).2
/-- The bits of a path. -/
def encB (a b c d e : Bool) : Int := (if a then 2 else 0) + (if b then 4 else 0) + (if c then 8 else 0) + (if d then 16 else 0) + (if e then 32 else 0)
def msk (K : List Int) : Int := encB (decide (1 ∈ K)) (decide (2 ∈ K)) (decide (3 ∈ K)) (decide (4 ∈ K)) (decide (5 ∈ K))
def hasM (m h : Int) : Bool := bits .and .u64 (m / 2 ^ h.toNat) 1 == 1
theorem hasM_enc (a b c d e : Bool) : hasM (encB a b c d e) 1 = a ∧ hasM (encB a b c d e) 2 = b ∧ hasM (encB a b c d e) 3 = c ∧ hasM (encB a b c d e) 4 = d ∧ hasM (encB a b c d e) 5 = e := by
  cases a <;> cases b <;> cases c <;> cases d <;> cases e <;> (refine ⟨?_, ?_, ?_, ?_, ?_⟩ <;> kernel_rfl)
theorem hasM_msk {K : List Int} {h : Int} (hh : Bts h 1 5) : hasM (msk K) h = decide (h ∈ K) := by
  obtain ⟨e1, e2, e3, e4, e5⟩ := hasM_enc (decide (1 ∈ K)) (decide (2 ∈ K)) (decide (3 ∈ K)) (decide (4 ∈ K)) (decide (5 ∈ K))
  unfold Bts at hh
  have : h = 1 ∨ h = 2 ∨ h = 3 ∨ h = 4 ∨ h = 5 := by omega
  rcases this with rfl | rfl | rfl | rfl | rfl
  · exact e1
  · exact e2
  · exact e3
  · exact e4
  · exact e5
theorem cell_new2a (w : World) (u v : Value) (T : TypeId) : (w.alloc (.cells #[u, v] T)).cell? ⟨w.heap.size, 0, none⟩ = some u := by simp
theorem cell_new2b (w : World) (u v : Value) (T : TypeId) : (w.alloc (.cells #[u, v] T)).cell? ⟨w.heap.size, 1, none⟩ = some v := by simp
end Go.Proofs.Ytjkfnjjkjhggfaa
set_option linter.unusedSimpArgs false
set_option linter.unusedVariables false
namespace Go.Proofs.Ytjkfnjjkjhggfaa
open Go.RowKit

theorem ints_take {w : World} {b off n c : Nat} {L : List Int} (h : Ints w (.slice (some ⟨b, off, none⟩) n c) L) {k : Nat} (hk : k ≤ n) (hc : n ≤ c) (hcc : c ≤ 9223372036854775807) : Ints w (.slice (some ⟨b, off, none⟩) k c) (L.take k) := by
  have := Rows.sub h (i := 0) (j := k) (c' := c) (by omega) hk (by omega) hcc
  simpa using this
theorem sPathOk_any (v : Value) (L : List Int) (w : World) (hv : Ints w v L) :
    Calls Try.prog 59 #[v] w fun e w' => e = .returned (.bool (decide (POk L))) ∧ Below w.heap.size w w' := by
  have hF := Fb.start w
  obtain ⟨n, cap, hn, hnc, hcap, ⟨hn0, ao, rfl⟩ | ⟨hn0, b0, off, rfl, hc⟩⟩ := hv.cases
  all_goals
    have HV := Lib.hid hv
    clear hv
    go_enter Try.func59, Try.ntmps59
    go_wp2
    go_loopw [3] (fun i wr => ∃ k : Nat, k ≤ n ∧ i = .int .i64 k ∧ Hid (POk (L.take k)) ∧ Fb w wr []) (fun i _ => n - (intOf i).toNat)
    case atStart => exact ⟨0, Nat.zero_le _, rfl, pok_nil, hF⟩
    case round =>
      clear hF
      obtain ⟨k, hk, rfl, hok, hF⟩ := hrel
      by_cases hlt : k < n
      · try (exfalso; omega)
        all_goals
          obtain ⟨x, hx⟩ := get_of hn.out hlt
          have HX := Lib.hid hx
          have c0 := fun z : Cl wr.heap.size wr => Cl.old hF z (hc.out k x hx)
          have hsub := Lib.hid (fun z : Cl wr.heap.size wr => (show Ints z.W (.slice (some ⟨b0, off, none⟩) k cap) (L.take k) from Rows.below (ints_take (Rows.below HV.out hF.kp) hk hnc hcap) z.below))
          clear hx
          by_cases d1 : Bts x 1 5
          · have e1 : decide (Bts x 1 5) = true := by simp [d1]
            by_cases d2 : x ∈ L.take k
            · have e2 : decide (x ∈ L.take k) = true := by simp [d2]
              have hp := Lib.hid (pok_bad HX.out (fun g => g.2 d2))
              clear d1 d2
              go_wp2
              first | refine wp_region_new (by kernel_rfl) (by kernel_rfl) ?_ | refine wp_region_lex ?_
              repeat (any_goals (first | go_big_quiet_step ((first | (go_at_call 62; exact Calls.cl (l3House_any _ _)) | (go_at_call 55; exact Calls.cl (l3Has_any _ _ _ _ (hsub.out _))))) | (refine wpQuiet_step (fun K hK => ?_); go_simp; split <;> (rename_i hg; refine hK _ ?_; clear hK K; simp only [hg, decide_true, decide_false]))))
              all_goals (refine wpQuiet_nil ?_; intro x)
              go_wp2
              go_ret
              exact ⟨by rw [hp.out]; rfl, (hF.cl x).kp⟩
            · have e2 : decide (x ∈ L.take k) = false := by simp [d2]
              have hp : Hid (POk (L.take (k + 1))) := (pok_step HX.out).2 ⟨hok.out, d1, d2⟩
              clear d1 d2
              go_wp2
              first | refine wp_region_new (by kernel_rfl) (by kernel_rfl) ?_ | refine wp_region_lex ?_
              repeat (any_goals (first | go_big_quiet_step ((first | (go_at_call 62; exact Calls.cl (l3House_any _ _)) | (go_at_call 55; exact Calls.cl (l3Has_any _ _ _ _ (hsub.out _))))) | (refine wpQuiet_step (fun K hK => ?_); go_simp; split <;> (rename_i hg; refine hK _ ?_; clear hK K; simp only [hg, decide_true, decide_false]))))
              all_goals (refine wpQuiet_nil ?_; intro x)
              go_wp2
              go_roundw
              case rel => exact ⟨k + 1, by omega, by go_num, hp, hF.cl x⟩
              case measure => simp [intOf]; omega
          · have e1 : decide (Bts x 1 5) = false := by simp [d1]
            have hp := Lib.hid (pok_bad HX.out (fun g => d1 g.1))
            clear d1
            go_wp2
            first | refine wp_region_new (by kernel_rfl) (by kernel_rfl) ?_ | refine wp_region_lex ?_
            repeat (any_goals (first | go_big_quiet_step ((first | (go_at_call 62; exact Calls.cl (l3House_any _ _)) | (go_at_call 55; exact Calls.cl (l3Has_any _ _ _ _ (hsub.out _))))) | (refine wpQuiet_step (fun K hK => ?_); go_simp; split <;> (rename_i hg; refine hK _ ?_; clear hK K; simp only [hg, decide_true, decide_false]))))
            all_goals (refine wpQuiet_nil ?_; intro x)
            go_wp2
            go_ret
            exact ⟨by rw [hp.out]; rfl, (hF.cl x).kp⟩
      · have hp : Hid (decide (POk L) = true) := by
          have := hok.out
          rw [List.take_of_length_le (by rw [hn.out]; omega)] at this
          exact decide_eq_true this
        go_wp2
        go_ret
        exact ⟨by rw [hp.out]; rfl, hF.kp⟩

theorem addM_enc (a b c d e : Bool) : bits .or .u64 (encB a b c d e) 2 = encB true b c d e ∧ bits .or .u64 (encB a b c d e) 4 = encB a true c d e ∧ bits .or .u64 (encB a b c d e) 8 = encB a b true d e ∧ bits .or .u64 (encB a b c d e) 16 = encB a b c true e ∧ bits .or .u64 (encB a b c d e) 32 = encB a b c d true := by
  cases a <;> cases b <;> cases c <;> cases d <;> cases e <;> (refine ⟨?_, ?_, ?_, ?_, ?_⟩ <;> kernel_rfl)
theorem Fb.swap {W w : World} {p q : Nat × List Value} {L : List (Nat × List Value)} (h : Fb W w (p :: q :: L)) : Fb W w (q :: p :: L) := h.sub fun x hx => by
  simp only [List.mem_cons] at hx ⊢
  rcases hx with h | h | h
  · exact Or.inr (Or.inl h)
  · exact Or.inl h
  · exact Or.inr (Or.inr h)
theorem five {x : Int} (h : Bts x 1 5) : x = 1 ∨ x = 2 ∨ x = 3 ∨ x = 4 ∨ x = 5 := by unfold Bts at h; omega
theorem shl_add (K : List Int) {x : Int} (hx : Bts x 1 5) : ∃ p : Int, (∀ w, (Op.shift .shl .u64 1 .i64 x).run Try.prog w = .ok (.int .u64 p) w) ∧ bits .or .u64 (msk K) p = msk (K ++ [x]) := by
  obtain ⟨e1, e2, e3, e4, e5⟩ := addM_enc (decide (1 ∈ K)) (decide (2 ∈ K)) (decide (3 ∈ K)) (decide (4 ∈ K)) (decide (5 ∈ K))
  rcases five hx with rfl | rfl | rfl | rfl | rfl
  · exact ⟨2, fun w => by kernel_rfl, by unfold msk; rw [e1]; simp⟩
  · exact ⟨4, fun w => by kernel_rfl, by unfold msk; rw [e2]; simp⟩
  · exact ⟨8, fun w => by kernel_rfl, by unfold msk; rw [e3]; simp⟩
  · exact ⟨16, fun w => by kernel_rfl, by unfold msk; rw [e4]; simp⟩
  · exact ⟨32, fun w => by kernel_rfl, by unfold msk; rw [e5]; simp⟩
end Go.Proofs.Ytjkfnjjkjhggfaa
