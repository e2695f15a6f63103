/- Decimal texts of numbers: plain laws; the table of powers stays. -/
import Derived.Test.YtgegmampnpgcaaaDoorEp
set_option linter.unusedSimpArgs false
set_option linter.unusedVariables false
namespace Go.Proofs.YtgegmampnpgcaaaDoor
open Go.RowKit

theorem gTab : Tryd.prog.globalNamed "internal/strconv.uint64pow10" = some 1 := by kernel_rfl
theorem tab_below {w w' : World} (h : Tab w) (hb : Below w.heap.size w w') : Tab w' := by
  unfold Tab Lib.TabIs World.var? at h ⊢
  rw [gTab] at h ⊢
  simp only [Option.bind_some] at h ⊢
  have hlt : 1 < w.heap.size := by
    rcases Nat.lt_or_ge 1 w.heap.size with h' | h'
    · exact h'
    · simp [Array.getElem?_eq_none h'] at h
  rw [hb.block _ hlt]; exact h
def tI (n : Int) : ByteArray := ⟨(Lib.itoa n).toArray⟩
theorem dd_len : ∀ (k u : Nat), u < 10 ^ (k + 1) → (Lib.decDigits u).length ≤ k + 1
  | k, u, h => by
    rw [Lib.decDigits]
    split
    · simp
    · rename_i h10
      match k, h with
      | 0, h => simp at h; omega
      | k + 1, h =>
        have := dd_len k (u / 10) (by rw [Nat.pow_succ] at h; omega)
        simp; omega
theorem u8n (n : Nat) : (UInt8.ofNat n).toNat = n % 256 := by simp
theorem dd_dig : ∀ (u : Nat), ∀ c ∈ Lib.decDigits u, 48 ≤ c.toNat ∧ c.toNat ≤ 57 := by
  intro u
  induction u using Nat.strongRecOn with
  | ind u ih =>
    rw [Lib.decDigits]
    split
    · intro c hc
      rw [List.mem_singleton.1 hc, u8n]; omega
    · rename_i h10
      intro c hc
      rcases List.mem_append.1 hc with hc | hc
      · exact ih (u / 10) (by omega) c hc
      · rw [List.mem_singleton.1 hc, u8n]; omega
def val (l : List UInt8) : Nat := l.foldl (fun a c => a * 10 + (c.toNat - 48)) 0
theorem val_dd : ∀ (u : Nat), val (Lib.decDigits u) = u := by
  intro u
  induction u using Nat.strongRecOn with
  | ind u ih =>
    rw [Lib.decDigits]
    split
    · simp only [val, List.foldl_cons, List.foldl_nil, u8n]; omega
    · rename_i h10
      have := ih (u / 10) (by omega)
      unfold val at this ⊢
      rw [List.foldl_append, this]
      simp only [List.foldl_cons, List.foldl_nil, u8n]; omega
theorem cut_at {s : UInt8} : ∀ {l1 l2 r1 r2 : List UInt8}, s ∉ l1 → s ∉ l2 → l1 ++ s :: r1 = l2 ++ s :: r2 → l1 = l2 ∧ r1 = r2
  | [], [], _, _, _, _, h => by injection h with _ h; exact ⟨rfl, h⟩
  | [], y :: l2, _, _, _, h2, h => by injection h with h _; exact absurd (by rw [h]; exact List.mem_cons_self ..) h2
  | x :: l1, [], _, _, h1, _, h => by injection h with h _; exact absurd (by rw [h]; exact List.mem_cons_self ..) h1
  | x :: l1, y :: l2, r1, r2, h1, h2, h => by
    injection h with e h
    have := cut_at (fun g => h1 (List.mem_cons_of_mem _ g)) (fun g => h2 (List.mem_cons_of_mem _ g)) h
    exact ⟨by rw [e, this.1], this.2⟩
theorem itoa_nat {n : Int} (h : 0 ≤ n) : Lib.itoa n = Lib.decDigits n.toNat := by unfold Lib.itoa; rw [if_neg (by omega)]
theorem itoa_inj {a b : Int} (ha : 0 ≤ a) (hb : 0 ≤ b) (h : Lib.itoa a = Lib.itoa b) : a = b := by
  rw [itoa_nat ha, itoa_nat hb] at h
  have := congrArg val h
  rw [val_dd, val_dd] at this; omega
theorem itoa_no {a : Int} (ha : 0 ≤ a) : (47 : UInt8) ∉ Lib.itoa a := fun h => by
  rw [itoa_nat ha] at h
  have := (dd_dig _ _ h).1
  exact absurd this (by decide)
theorem tI_size {n : Int} (h0 : 0 ≤ n) (h : n ≤ 255) : (tI n).size ≤ 3 := by
  show (Lib.itoa n).toArray.size ≤ 3
  rw [itoa_nat h0]
  have := dd_len 2 n.toNat (by omega)
  simpa using this
theorem itoa_no45 {a : Int} (ha : 0 ≤ a) : (45 : UInt8) ∉ Lib.itoa a := fun h => by
  rw [itoa_nat ha] at h
  have := (dd_dig _ _ h).1
  exact absurd this (by decide)
theorem itoa_ne {a : Int} (ha : 0 ≤ a) : Lib.itoa a ≠ [] := by
  rw [itoa_nat ha, Lib.decDigits]; split <;> simp
end Go.Proofs.YtgegmampnpgcaaaDoor
