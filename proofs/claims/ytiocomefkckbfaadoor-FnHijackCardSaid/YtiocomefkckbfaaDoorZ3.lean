/- Small words used everywhere: numbers in bounds; what a callee leaves. Rows of numbers, and rows of rows; what a matrix of relations is. Numbers in a row; houses. -/
import Derived.Test.YtiocomefkckbfaaDoorZ1
import Derived.Test.YtiocomefkckbfaaDoorZ2
set_option linter.unusedSimpArgs false
set_option linter.unusedVariables false
namespace Go.Proofs.YtiocomefkckbfaaDoor
open Go.RowKit

theorem bcell {W w1 : World} {B : Nat} (hb : Below B W w1) : (∀ b o, b < B → w1.cell? ⟨b, o, none⟩ = W.cell? ⟨b, o, none⟩) ∧ (∀ b o, b < B → w1.frozen? ⟨b, o, none⟩ = W.frozen? ⟨b, o, none⟩) :=
  ⟨fun b o h => hb.cell (p := ⟨b, o, none⟩) h, fun b o h => hb.frozen (p := ⟨b, o, none⟩) h⟩
theorem Cl.c2 {w : World} (x : Cl w.heap.size w) {b : Nat} {v0 v1 : Value} (o : w.cell? ⟨b, 0, none⟩ = some v0 ∧ w.cell? ⟨b, 1, none⟩ = some v1 ∧ w.frozen? ⟨b, 0, none⟩ = false ∧ w.frozen? ⟨b, 1, none⟩ = false) :
    x.W.cell? ⟨b, 0, none⟩ = some v0 ∧ x.W.cell? ⟨b, 1, none⟩ = some v1 := ⟨x.cell o.1, x.cell o.2.1⟩
def Bts (n lo hi : Int) : Prop := lo ≤ n ∧ n ≤ hi
instance (n lo hi : Int) : Decidable (Bts n lo hi) := by unfold Bts; infer_instance
theorem l6In_any (n lo hi : Int) (w : World) :
    Calls Tryd.prog 53 #[.int .i64 n, .int .i64 lo, .int .i64 hi] w fun e w' => e = .returned (.bool (decide (Bts n lo hi))) ∧ Below w.heap.size w w' := by
  go_enter Tryd.func53, Tryd.ntmps53
  go_wp2
  all_goals (go_ret; refine ⟨ret_bool ?_, Below.refl _ _⟩; rw [Bool.eq_iff_iff]; simp; unfold Bts; omega)
end Go.Proofs.YtiocomefkckbfaaDoor
set_option linter.unusedSimpArgs false
set_option linter.unusedVariables false
namespace Go.Proofs.YtiocomefkckbfaaDoor
open Go.RowKit

def encI (n : Int) : List Value := [.int .i64 n]
def encV (u : Value) : List Value := [u]
abbrev Ints (w : World) (v : Value) (L : List Int) : Prop := Rows w v 1 encI L
theorem Ints.cases {w : World} {v : Value} {L : List Int} (h : Ints w v L) :
    ∃ n cap, Hid (L.length = n) ∧ n ≤ cap ∧ cap ≤ 9223372036854775807 ∧ ((n ≤ 0 ∧ ∃ ao, v = .slice ao n cap) ∨ (0 < n ∧ ∃ b off, v = .slice (some ⟨b, off, none⟩) n cap ∧ Hid (∀ k x, L[k]? = some x → w.cell? ⟨b, off + k, none⟩ = some (.int .i64 x)))) := by
  obtain ⟨n, cap, hn, h1, h2, h3⟩ := Rows.cases h
  refine ⟨n, cap, hn, h1, h2, ?_⟩
  rcases h3 with h3 | ⟨hp, b, off, rfl, hc⟩
  · exact Or.inl h3
  · refine Or.inr ⟨hp, b, off, rfl, fun k x hk => ?_⟩
    have := hc.out k x hk 0 _ rfl
    simpa using this
/-- The number at a place. -/
theorem Ints.get {w : World} {b off n cap : Nat} {L : List Int} (h : Ints w (.slice (some ⟨b, off, none⟩) n cap) L) {k : Nat} {x : Int} (hk : L[k]? = some x) : w.cell? ⟨b, off + k, none⟩ = some (.int .i64 x) := by
  have := Rows.get h hk (j := 0) rfl
  simpa using this
theorem Ints.getD {w : World} {b off n cap : Nat} {L : List Int} (h : Ints w (.slice (some ⟨b, off, none⟩) n cap) L) {k : Nat} (hk : k < L.length) : w.cell? ⟨b, off + k, none⟩ = some (.int .i64 (L.getD k 0)) :=
  h.get (by rw [List.getElem?_eq_getElem hk]; simp [List.getD, hk])

/-- A slice of slices of numbers that reads as the matrix M. -/
structure Mat (w : World) (v : Value) (M : List (List Int)) : Prop where
  ex : ∃ vs : List Value, Rows w v 1 encV vs ∧ vs.length = M.length ∧ ∀ (i : Nat) (r : List Int), M[i]? = some r → ∃ u : Value, vs[i]? = some u ∧ Ints w u r
theorem Mat.below {w w' : World} {v : Value} {M : List (List Int)} (h : Mat w v M) (hb : Below w.heap.size w w') : Mat w' v M := by
  obtain ⟨vs, h1, h2, h3⟩ := h.ex
  refine ⟨vs, h1.below hb, h2, fun i r hi => ?_⟩
  obtain ⟨u, hu, hr⟩ := h3 i r hi
  exact ⟨u, hu, hr.below hb⟩
theorem Mat.alloc {w : World} {v : Value} {M : List (List Int)} (h : Mat w v M) (o : Obj) : Mat (w.alloc o) v M := h.below ((Below.refl _ _).alloc (Nat.le_refl _) _)
theorem Mat.cases {w : World} {v : Value} {M : List (List Int)} (h : Mat w v M) :
    ∃ n cap, Hid (M.length = n) ∧ n ≤ cap ∧ cap ≤ 9223372036854775807 ∧ ((n ≤ 0 ∧ ∃ ao, v = .slice ao n cap) ∨ (0 < n ∧ ∃ b off, v = .slice (some ⟨b, off, none⟩) n cap)) := by
  obtain ⟨vs, h1, h2, h3⟩ := h.ex
  obtain ⟨n, cap, hn, k1, k2, k3⟩ := Rows.cases h1
  refine ⟨n, cap, h2.symm.trans hn.out, k1, k2, ?_⟩
  rcases k3 with k3 | ⟨hp, b, off, rfl, hc⟩
  · exact Or.inl k3
  · exact Or.inr ⟨hp, b, off, rfl⟩
/-- A row of it: its slice's address, and what stands in it. -/
theorem Mat.at {w : World} {b off n cap : Nat} {M : List (List Int)} (h : Mat w (.slice (some ⟨b, off, none⟩) n cap) M) {k : Nat} (hk : k < M.length) :
    ∃ a m c, w.cell? ⟨b, off + k, none⟩ = some (.slice a m c) ∧ Hid ((M.getD k []).length = m) ∧ Ints w (.slice a m c) (M.getD k []) ∧ m ≤ c ∧ c ≤ 9223372036854775807 := by
  obtain ⟨vs, h1, h2, h3⟩ := h.ex
  obtain ⟨u, hu, hr⟩ := h3 k M[k] (List.getElem?_eq_getElem hk)
  have hc := Rows.get h1 hu (j := 0) (u := u) rfl
  obtain ⟨ao, c, rfl, g1, g2, _⟩ := hr.ex
  have e : M.getD k [] = M[k] := by simp [List.getD, hk]
  refine ⟨ao, M[k].length, c, ?_, ?_, ?_, g1, g2⟩
  · simpa using hc
  · show _ = _; rw [e]
  · rw [e]; exact hr
theorem Ints.some {w : World} {a : Option Addr} {m c : Nat} {L : List Int} (h : Ints w (.slice a m c) L) (hm : 0 < m) : ∃ b off, a = some ⟨b, off, none⟩ := by
  obtain ⟨n, cap, hn, _, _, ⟨h0, ao, e⟩ | ⟨_, b, off, e, _⟩⟩ := Ints.cases h
  · injection e with e1 e2 e3; omega
  · injection e with e1 e2 e3; exact ⟨b, off, e1⟩

def mget (M : List (List Int)) (i k : Nat) : Int := (M.getD i []).getD k 0
/-- What the other is to one, if one is so much to it. -/
def bk (r : Int) : Int := if r = 1 then 3 else if r = 3 then 1 else r
def OkAt (M : List (List Int)) (i k : Nat) : Prop := (M.getD k []).length = M.length ∧ Bts (mget M i k) 0 3 ∧ mget M k i = bk (mget M i k) ∧ (i = k → mget M i k = 0)
instance (M : List (List Int)) (i k : Nat) : Decidable (OkAt M i k) := by unfold OkAt; infer_instance
def RowOk (M : List (List Int)) (i : Nat) : Prop := (M.getD i []).length = M.length ∧ ∀ k, k < M.length → OkAt M i k
instance (M : List (List Int)) (i : Nat) : Decidable (RowOk M i) := by unfold RowOk; infer_instance
def RelsP (M : List (List Int)) : Prop := (∀ i, i < M.length → RowOk M i) ∧ 1 ≤ M.length ∧ M.length ≤ 5
instance (M : List (List Int)) : Decidable (RelsP M) := by unfold RelsP; infer_instance
theorem bk_bk {r : Int} (h : Bts r 0 3) : bk (bk r) = r ∧ Bts (bk r) 0 3 := by
  unfold Bts at *; unfold bk; repeat' split
  all_goals omega
theorem relsP_no {M : List (List Int)} {n i k : Nat} (hn : M.length = n) (hi : i < n) (hk : k < n) (h : ¬ OkAt M i k) : decide (RelsP M) = false := by
  simp only [decide_eq_false_iff_not]
  exact fun hp => h ((hp.1 i (by omega)).2 k (by omega))
theorem relsP_row {M : List (List Int)} {n i : Nat} (hn : M.length = n) (hi : i < n) (h : (M.getD i []).length ≠ n) : decide (RelsP M) = false := by
  simp only [decide_eq_false_iff_not]
  exact fun hp => h (by rw [(hp.1 i (by omega)).1, hn])
theorem relsP_all {M : List (List Int)} {n : Nat} (hn : M.length = n) (h : ∀ i, i < n → RowOk M i) : decide (RelsP M) = decide (Bts (n : Int) 1 5) := by
  refine decide_eq_decide.2 ?_
  unfold RelsP Bts
  constructor
  · rintro ⟨_, h1, h2⟩; omega
  · rintro ⟨h1, h2⟩; exact ⟨fun i hi => h i (by omega), by omega, by omega⟩
end Go.Proofs.YtiocomefkckbfaaDoor
set_option linter.unusedSimpArgs false
set_option linter.unusedVariables false
namespace Go.Proofs.YtiocomefkckbfaaDoor
open Go.RowKit

theorem infoInt : (Tryd.prog.info? 3).map (fun i => (i.zero, i.size, i.bytes)) = some (some (.int .i64 0), 1, 8) := by kernel_rfl
theorem any_mem (L : List Int) (h : Int) : L.any (fun x => x == h) = decide (h ∈ L) := by
  rw [Bool.eq_iff_iff]; simp only [List.any_eq_true, decide_eq_true_eq, beq_iff_eq]
  exact ⟨fun ⟨x, h1, h2⟩ => h2 ▸ h1, fun h1 => ⟨h, h1, rfl⟩⟩
theorem l3Has_any (v : Value) (L : List Int) (h : Int) (w : World) (hv : Ints w v L) :
    Calls Tryd.prog 43 #[v, .int .i64 h] w fun e w' => e = .returned (.bool (decide (h ∈ L))) ∧ Below w.heap.size w w' := by
  have hF := Fb.start w
  rw [← any_mem]
  obtain ⟨n, cap, hn, hnc, hcap, ⟨hn0, ao, rfl⟩ | ⟨hn0, b0, off, rfl, hc⟩⟩ := hv.cases
  all_goals
    clear hv
    go_enter Tryd.func43, Tryd.ntmps43
    go_wp2
    go_loopw [5] (fun i wr => ∃ k : Nat, k ≤ n ∧ i = .int .i64 k ∧ Hid ((L.take k).any (fun x => x == h) = false) ∧ Fb w wr []) (fun i _ => n - (intOf i).toNat)
    case atStart => exact ⟨0, Nat.zero_le _, rfl, rfl, hF⟩
    case round =>
      clear hF
      obtain ⟨k, hk, rfl, hany, hF⟩ := hrel
      by_cases hlt : k < n
      · try (exfalso; omega)
        all_goals
          obtain ⟨x, hx⟩ := get_of hn.out hlt
          have HX := Lib.hid hx; clear hx
          have c0 := hF.old (hc.out k x HX.out)
          by_cases hxh : x = h
          · have hp := Lib.hid (any_hit (p := fun x => x == h) HX.out (by simp [hxh]))
            have d1 : (x == h) = true := by simp [hxh]
            clear hxh
            go_wp2
            go_ret
            exact ⟨by rw [hp.out]; rfl, hF.kp⟩
          · have hp := Lib.hid (any_step (p := fun x => x == h) hany.out HX.out (by simpa using hxh))
            have d1 : (x == h) = false := by simp [hxh]
            clear hxh
            go_wp2
            go_roundw
            case rel => exact ⟨k + 1, by omega, by go_num, hp, hF⟩
            case measure => simp [intOf]; omega
      · have hp := Lib.hid (any_end (p := fun x => x == h) hany.out (by rw [hn.out]; omega))
        go_wp2
        go_ret
        exact ⟨by rw [hp.out]; rfl, hF.kp⟩
theorem lyIn_any (v : Value) (L : List Int) (h : Int) (w : World) (hv : Ints w v L) :
    Calls Tryd.prog 20 #[v, .int .i64 h] w fun e w' => e = .returned (.bool (decide (h ∈ L))) ∧ Below w.heap.size w w' := by
  have hF := Fb.start w
  rw [← any_mem]
  obtain ⟨n, cap, hn, hnc, hcap, ⟨hn0, ao, rfl⟩ | ⟨hn0, b0, off, rfl, hc⟩⟩ := hv.cases
  all_goals
    clear hv
    go_enter Tryd.func20, Tryd.ntmps20
    go_wp2
    go_loopw [5] (fun i wr => ∃ k : Nat, k ≤ n ∧ i = .int .i64 k ∧ Hid ((L.take k).any (fun x => x == h) = false) ∧ Fb w wr []) (fun i _ => n - (intOf i).toNat)
    case atStart => exact ⟨0, Nat.zero_le _, rfl, rfl, hF⟩
    case round =>
      clear hF
      obtain ⟨k, hk, rfl, hany, hF⟩ := hrel
      by_cases hlt : k < n
      · try (exfalso; omega)
        all_goals
          obtain ⟨x, hx⟩ := get_of hn.out hlt
          have HX := Lib.hid hx; clear hx
          have c0 := hF.old (hc.out k x HX.out)
          by_cases hxh : x = h
          · have hp := Lib.hid (any_hit (p := fun x => x == h) HX.out (by simp [hxh]))
            have d1 : (x == h) = true := by simp [hxh]
            clear hxh
            go_wp2
            go_ret
            exact ⟨by rw [hp.out]; rfl, hF.kp⟩
          · have hp := Lib.hid (any_step (p := fun x => x == h) hany.out HX.out (by simpa using hxh))
            have d1 : (x == h) = false := by simp [hxh]
            clear hxh
            go_wp2
            go_roundw
            case rel => exact ⟨k + 1, by omega, by go_num, hp, hF⟩
            case measure => simp [intOf]; omega
      · have hp := Lib.hid (any_end (p := fun x => x == h) hany.out (by rw [hn.out]; omega))
        go_wp2
        go_ret
        exact ⟨by rw [hp.out]; rfl, hF.kp⟩
theorem nodup_len : ∀ (L K : List Int), L.Nodup → (∀ x ∈ L, x ∈ K) → L.length ≤ K.length
  | [], K, _, _ => Nat.zero_le _
  | x :: L, K, hn, hs => by
    rw [List.nodup_cons] at hn
    have hx := hs x (List.mem_cons_self ..)
    have ih := nodup_len L (K.erase x) hn.2 (fun y hy => (List.mem_erase_of_ne (show y ≠ x from fun e => hn.1 (by rw [← e]; exact hy))).2 (hs y (List.mem_cons_of_mem _ hy)))
    rw [List.length_erase_of_mem hx] at ih
    have := List.length_pos_of_mem hx
    simp only [List.length_cons]; omega
end Go.Proofs.YtiocomefkckbfaaDoor
