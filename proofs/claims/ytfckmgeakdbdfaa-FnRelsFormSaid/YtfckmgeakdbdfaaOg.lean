/- A house less; peers alone; spoilt relations: plain. -/
import Derived.Test.YtfckmgeakdbdfaaOf
set_option linter.unusedSimpArgs false
set_option linter.unusedVariables false
namespace Go.Proofs.Ytfckmgeakdbdfaa
open Go.RowKit

/-- Without the last house. -/
def lessM (M : List (List Int)) : List (List Int) := (M.take (M.length - 1)).map (fun r => r.take (M.length - 1))
theorem lessM_len (M : List (List Int)) : (lessM M).length = M.length - 1 := by unfold lessM; simp
theorem lessM_row {M : List (List Int)} {i : Nat} (hi : i < M.length - 1) : (lessM M).getD i [] = (M.getD i []).take (M.length - 1) := by
  unfold lessM
  simp only [List.getD, List.getElem?_map, List.getElem?_take]
  rw [if_pos hi, List.getElem?_eq_getElem (show i < M.length by omega)]
  rfl
theorem lessM_get {M : List (List Int)} {i k : Nat} (hi : i < M.length - 1) (hk : k < M.length - 1) : mget (lessM M) i k = mget M i k := by
  unfold mget
  rw [lessM_row hi]
  simp only [List.getD, List.getElem?_take]
  rw [if_pos hk]
theorem lessM_rels {M : List (List Int)} (hp : RelsP M) (h2 : 2 ≤ M.length) : RelsP (lessM M) := by
  refine ⟨fun i hi => ?_, by rw [lessM_len]; omega, by rw [lessM_len]; have := hp.2.2; omega⟩
  rw [lessM_len] at hi
  have hr : ∀ j, j < M.length - 1 → ((lessM M).getD j []).length = (lessM M).length := fun j hj => by
    rw [lessM_row hj, lessM_len, List.length_take, hp.row (show j < M.length by omega)]; omega
  refine ⟨hr i hi, fun k hk => ?_⟩
  rw [lessM_len] at hk
  have h := (hp.1 i (by omega)).2 k (by omega)
  refine ⟨hr k hk, ?_, ?_, ?_⟩
  · rw [lessM_get hi hk]; exact h.2.1
  · rw [lessM_get hi hk, lessM_get hk hi]; exact h.2.2.1
  · rw [lessM_get hi hk]; exact h.2.2.2
theorem lessM_of {M : List (List Int)} (hp : RelsP M) (h2 : 2 ≤ M.length) {a b : Int} (h : relof (lessM M) a b = 1) : relof M a b = 1 := by
  obtain ⟨_, ha, hb⟩ := relof_bts h
  have hq := lessM_rels hp h2
  unfold relof at *
  rw [if_pos ⟨hq, ha, hb⟩] at h
  rw [lessM_len] at ha hb
  obtain ⟨a1, a2⟩ := ha
  obtain ⟨b1, b2⟩ := hb
  rw [if_pos ⟨hp, ⟨a1, by omega⟩, ⟨b1, by omega⟩⟩]
  unfold mgi at *
  rw [lessM_get (by omega) (by omega)] at h
  exact h
theorem lessM_free {M : List (List Int)} (h : FreeP M) (h2 : 2 ≤ M.length) : FreeP (lessM M) := by
  obtain ⟨hp, rk, hrk⟩ := (free_iff M).1 h
  exact (free_iff _).2 ⟨lessM_rels hp h2, rk, fun a b hab => hrk a b (lessM_of hp h2 hab)⟩

/-- Peers, so many. -/
def peersM (n : Nat) : List (List Int) := (List.range n).map (fun i => (List.range n).map (fun k => if k = i then 0 else 2))
theorem peers_ok {n : Nat} (h1 : 1 ≤ n) (h5 : n ≤ 5) : RelsP (peersM n) ∧ ord (peersM n) = upto n ∧ FreeP (peersM n) := by
  have : n = 1 ∨ n = 2 ∨ n = 3 ∨ n = 4 ∨ n = 5 := by omega
  rcases this with rfl | rfl | rfl | rfl | rfl
  all_goals decide +kernel

/-- One number put at a place of a matrix. -/
def putM (M : List (List Int)) (i k : Nat) (x : Int) : List (List Int) := M.set i ((M.getD i []).set k x)
theorem putM_len (M : List (List Int)) (i k : Nat) (x : Int) : (putM M i k x).length = M.length := by simp [putM]
theorem putM_at {M : List (List Int)} {i k : Nat} {x : Int} (hi : i < M.length) (hk : k < (M.getD i []).length) : mget (putM M i k x) i k = x := by
  unfold mget putM
  simp only [List.getD] at hk ⊢
  rw [List.getElem?_set_self (by simpa using hi)]
  simp only [Option.getD_some]
  rw [List.getElem?_set_self hk]
  rfl
theorem putM_off {M : List (List Int)} {i k j l : Nat} {x : Int} (h : i ≠ j) : mget (putM M i k x) j l = mget M j l := by
  unfold mget putM
  simp only [List.getD]
  rw [List.getElem?_set_ne h]
theorem spoil_a {M : List (List Int)} (hp : RelsP M) {i k : Nat} (hi : i < M.length) (hk : k < M.length) (hne : i ≠ k) {x : Int} (hx : x = (mget M i k + 1) % 4) : ¬ RelsP (putM M i k x) := by
  intro hq
  have h1 := (hp.1 i hi).2 k hk
  have h2 := (hq.1 i (by rw [putM_len]; exact hi)).2 k (by rw [putM_len]; exact hk)
  have e1 : mget (putM M i k x) i k = x := putM_at hi (by rw [hp.row hi]; exact hk)
  have e2 : mget (putM M i k x) k i = mget M k i := putM_off hne
  have h3 := h2.2.2.1
  rw [e1, e2, h1.2.2.1] at h3
  obtain ⟨b1, b2⟩ := h1.2.1
  generalize mget M i k = y at *
  have : y = 0 ∨ y = 1 ∨ y = 2 ∨ y = 3 := by omega
  subst hx
  rcases this with rfl | rfl | rfl | rfl
  all_goals exact absurd h3 (by decide)
theorem spoil_b {M : List (List Int)} (hp : RelsP M) {i : Nat} (hi : i < M.length) : ¬ RelsP (putM M i i 2) := by
  intro hq
  have h2 := (hq.1 i (by rw [putM_len]; exact hi)).2 i (by rw [putM_len]; exact hi)
  have e1 : mget (putM M i i 2) i i = 2 := putM_at hi (by rw [hp.row hi]; exact hi)
  have := h2.2.2.2 rfl
  rw [e1] at this; omega
end Go.Proofs.Ytfckmgeakdbdfaa
