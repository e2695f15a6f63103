/- Relations: the program's functions. Numbers in a row; houses. Relations drawn. -/
import Derived.Test.YtdemclnhdggmcaaZ5
import Derived.Test.YtdemclnhdggmcaaZ6
import Derived.Test.YtdemclnhdggmcaaZ4
set_option maxRecDepth 100000
set_option linter.unusedSimpArgs false
set_option linter.unusedVariables false
namespace Go.Proofs.Ytdemclnhdggmcaa
open Go.RowKit Go.Maps Go.WideMaps

/-- Block b is the map of M's relations. -/
def Kn (w : World) (M : List (List Int)) (b : Nat) : Prop := ∃ m D, w.ownsMap Try.prog 69 PE b m D ∧ KD D (gall M)
theorem Kn.below {w w' : World} {M : List (List Int)} {b : Nat} (h : Kn w M b) (hb : Below w.heap.size w w') : Kn w' M b := by
  obtain ⟨m, D, h1, h2⟩ := h
  exact ⟨m, D, h1.kept (below_grownBy hb) (by simp), h2⟩
theorem Kn.alloc {w : World} {M : List (List Int)} {b : Nat} (h : Kn w M b) (o : Obj) : Kn (w.alloc o) M b := h.below ((Below.refl _ _).alloc (Nat.le_refl _) _)
theorem Kn.drew {w : World} {M : List (List Int)} {b : Nat} (h : Kn w M b) : Kn w.drew M b := h.below (Below.refl _ _).drew
theorem gi_relof {M : List (List Int)} (h : RelsP M) (a c : Int) : gi (gall M) a c = relof M a c := by
  have h5 := h.2.2
  unfold gi relof
  by_cases hb : Bts a 1 M.length ∧ Bts c 1 M.length
  · have h1 := hb.1
    have h2 := hb.2
    unfold Bts at h1 h2
    rw [if_pos ⟨by omega, by omega, by omega, by omega⟩, if_pos ⟨h, hb.1, hb.2⟩]
    exact gall_eq M (by omega) (by omega)
  · rw [show (if RelsP M ∧ Bts a 1 (M.length : Int) ∧ Bts c 1 (M.length : Int) then mgi M a c else 0) = 0 from if_neg (fun g => hb g.2)]
    split
    · rename_i hg
      refine gall_out M (fun g => hb ⟨⟨by omega, by omega⟩, ⟨by omega, by omega⟩⟩)
    · rfl

theorem rhas_any (n h : Int) (v : Value) (w : World) (hv : v.oneCell' = true) :
    Calls Try.prog 26 #[.agg #[.int .i64 n, v], .int .i64 h] w fun e w' => e = .returned (.bool (decide (Bts h 1 n))) ∧ Below w.heap.size w w' := by
  by_cases h1 : 1 ≤ h
  · have d1 : decide (1 ≤ h) = true := by simp [h1]
    go_enter Try.func26, Try.ntmps26
    go_wp2
    go_ret
    exact ⟨ret_bool (by rw [Bool.eq_iff_iff]; simp only [decide_eq_true_eq, Bool.and_eq_true, Bool.false_eq_true, Bool.true_eq_false]; unfold Bts; omega), (Below.refl _ _).alloc (Nat.le_refl _) _⟩
  · have d1 : decide (1 ≤ h) = false := by simp; omega
    go_enter Try.func26, Try.ntmps26
    go_wp2
    go_ret
    refine ⟨ret_bool ?_, (Below.refl _ _).alloc (Nat.le_refl _) _⟩
    have hb : decide (Bts h 1 n) = false := by rw [decide_eq_false_iff_not]; unfold Bts; omega
    rw [hb]

/-- What readRels hands back, in two ways. -/
theorem readRels_yes (v : Value) (M : List (List Int)) (w : World) (hM : Mat w v M) (hp : RelsP M) :
    Calls Try.prog 25 #[v] w fun e w' => ∃ b, e = .returned (.tuple #[.agg #[.int .i64 M.length, .map (some b)], .bool true]) ∧ Kn w' M b ∧ Below w.heap.size w w' :=
  (readRels_any v M w hM).mono fun e w' h => by
    rcases h with ⟨⟨_, b, m, D, he, h1, h2⟩ | ⟨hn, _⟩, hB⟩
    · exact ⟨b, he, ⟨m, D, h1, h2⟩, hB⟩
    · exact (hn hp).elim
theorem readRels_no (v : Value) (M : List (List Int)) (w : World) (hM : Mat w v M) (hp : ¬ RelsP M) :
    Calls Try.prog 25 #[v] w fun e w' => e = .returned (.tuple #[.agg #[.int .i64 0, .map none], .bool false]) ∧ Below w.heap.size w w' :=
  (readRels_any v M w hM).mono fun e w' h => by
    rcases h with ⟨⟨hn, _⟩ | ⟨_, he⟩, hB⟩
    · exact (hp hn).elim
    · exact ⟨he, hB⟩

def MayR (M : List (List Int)) (h o t : Int) : Prop := relof M h t ≠ 0 ∧ (o = 0 ∨ relof M h o = 1 ∨ relof M h t = 1)
instance (M : List (List Int)) (h o t : Int) : Decidable (MayR M h o t) := by unfold MayR; infer_instance
theorem mayP_r (M : List (List Int)) (h o t : Int) : MayP M h o t ↔ RelsP M ∧ Bts h 1 M.length ∧ Bts t 1 M.length ∧ (o = 0 ∨ Bts o 1 M.length) ∧ MayR M h o t := by
  unfold MayP MayR May1
  constructor
  · rintro ⟨h1, h2, h3, h4, h5, h6⟩
    have ho : o = 0 ∨ Bts o 1 M.length := by unfold Bts at *; omega
    have e1 : relof M h t = mgi M h t := by unfold relof; rw [if_pos ⟨h1, h2, h4⟩]
    refine ⟨h1, h2, h4, ho, by rw [e1]; exact h5, ?_⟩
    rw [e1]
    rcases ho with ho | ho
    · exact Or.inl ho
    · have e2 : relof M h o = mgi M h o := by unfold relof; rw [if_pos ⟨h1, h2, ho⟩]
      rw [e2]; exact h6
  · rintro ⟨h1, h2, h4, ho, h5, h6⟩
    have e1 : relof M h t = mgi M h t := by unfold relof; rw [if_pos ⟨h1, h2, h4⟩]
    rw [e1] at h5 h6
    have hn := h1.2.1
    refine ⟨h1, h2, by unfold Bts at *; omega, h4, h5, ?_⟩
    rcases ho with ho | ho
    · exact Or.inl ho
    · have e2 : relof M h o = mgi M h o := by unfold relof; rw [if_pos ⟨h1, h2, ho⟩]
      rw [e2] at h6; exact h6
end Go.Proofs.Ytdemclnhdggmcaa
set_option linter.unusedSimpArgs false
set_option linter.unusedVariables false
namespace Go.Proofs.Ytdemclnhdggmcaa
open Go.RowKit

theorem infoInt : (Try.prog.info? 3).map (fun i => (i.zero, i.size, i.bytes)) = some (some (.int .i64 0), 1, 8) := by kernel_rfl
theorem any_mem (L : List Int) (h : Int) : L.any (fun x => x == h) = decide (h ∈ L) := by
  rw [Bool.eq_iff_iff]; simp only [List.any_eq_true, decide_eq_true_eq, beq_iff_eq]
  exact ⟨fun ⟨x, h1, h2⟩ => h2 ▸ h1, fun h1 => ⟨h, h1, rfl⟩⟩
theorem l3Has_any (v : Value) (L : List Int) (h : Int) (w : World) (hv : Ints w v L) :
    Calls Try.prog 55 #[v, .int .i64 h] w fun e w' => e = .returned (.bool (decide (h ∈ L))) ∧ Below w.heap.size w w' := by
  have hF := Fb.start w
  rw [← any_mem]
  obtain ⟨n, cap, hn, hnc, hcap, ⟨hn0, ao, rfl⟩ | ⟨hn0, b0, off, rfl, hc⟩⟩ := hv.cases
  all_goals
    clear hv
    go_enter Try.func55, Try.ntmps55
    go_wp2
    go_loopw [5] (fun i wr => ∃ k : Nat, k ≤ n ∧ i = .int .i64 k ∧ Hid ((L.take k).any (fun x => x == h) = false) ∧ Fb w wr []) (fun i _ => n - (intOf i).toNat)
    case atStart => exact ⟨0, Nat.zero_le _, rfl, rfl, hF⟩
    case round =>
      clear hF
      obtain ⟨k, hk, rfl, hany, hF⟩ := hrel
      by_cases hlt : k < n
      · try (exfalso; omega)
        all_goals
          obtain ⟨x, hx⟩ := get_of hn.out hlt
          have HX := Lib.hid hx; clear hx
          have c0 := hF.old (hc.out k x HX.out)
          by_cases hxh : x = h
          · have hp := Lib.hid (any_hit (p := fun x => x == h) HX.out (by simp [hxh]))
            have d1 : (x == h) = true := by simp [hxh]
            clear hxh
            go_wp2
            go_ret
            exact ⟨by rw [hp.out]; rfl, hF.kp⟩
          · have hp := Lib.hid (any_step (p := fun x => x == h) hany.out HX.out (by simpa using hxh))
            have d1 : (x == h) = false := by simp [hxh]
            clear hxh
            go_wp2
            go_roundw
            case rel => exact ⟨k + 1, by omega, by go_num, hp, hF⟩
            case measure => simp [intOf]; omega
      · have hp := Lib.hid (any_end (p := fun x => x == h) hany.out (by rw [hn.out]; omega))
        go_wp2
        go_ret
        exact ⟨by rw [hp.out]; rfl, hF.kp⟩
theorem nodup_len : ∀ (L K : List Int), L.Nodup → (∀ x ∈ L, x ∈ K) → L.length ≤ K.length
  | [], K, _, _ => Nat.zero_le _
  | x :: L, K, hn, hs => by
    rw [List.nodup_cons] at hn
    have hx := hs x (List.mem_cons_self ..)
    have ih := nodup_len L (K.erase x) hn.2 (fun y hy => (List.mem_erase_of_ne (show y ≠ x from fun e => hn.1 (by rw [← e]; exact hy))).2 (hs y (List.mem_cons_of_mem _ hy)))
    rw [List.length_erase_of_mem hx] at ih
    have := List.length_pos_of_mem hx
    simp only [List.length_cons]; omega
end Go.Proofs.Ytdemclnhdggmcaa
set_option linter.unusedSimpArgs false
set_option linter.unusedVariables false
namespace Go.Proofs.Ytdemclnhdggmcaa
open Go.RowKit

theorem infoRow : (Try.prog.info? 40).map (fun i => (i.zero, i.size, i.bytes)) = some (some (.slice none 0 0), 1, 24) := by kernel_rfl
theorem make_ints (n : Nat) (hn : n ≤ 1000) (w : World) : (Instr.makeSlice 40 (.int .i64 n) (.int .i64 n)).run Try.prog w = .ok (.slice (some ⟨w.heap.size, 0, none⟩) n n) (w.alloc (.cells (zarr n) 3)) := by
  obtain ⟨j0, hj, hy0, hy1, hy2⟩ := info_parts infoInt
  have := run_make (P := Try.prog) w 40 3 j0 (.int .i64 0) Try.underlying40 hj hy0 .i64 .i64 n n (by omega) (Int.le_refl _) (by rw [hy2]; omega) (by omega)
  rw [hy1] at this
  simpa [zarr, Value.cells] using this

theorem l12Back_3 (w : World) : Calls Try.prog 38 #[.int .i64 3] w fun e w' => e = .returned (.int .i64 1) ∧ Below w.heap.size w w' := l12Back_any 3 (by omega) (by omega) w
theorem bk_bd {r : Int} (h0 : 0 ≤ r) (h3 : r ≤ 3) : 0 ≤ bk r ∧ bk r ≤ 3 := by
  unfold bk; repeat' split
  all_goals omega
end Go.Proofs.Ytdemclnhdggmcaa
