/- Decimal texts of numbers: plain laws; the table of powers stays. A seal as a key. The text of a path in a key tells the path. -/
import Derived.Test.YtiocomefkckbfaaDoorZ10
set_option linter.unusedSimpArgs false
set_option linter.unusedVariables false
namespace Go.Proofs.YtiocomefkckbfaaDoor
open Go.RowKit

theorem gTab : Tryd.prog.globalNamed "internal/strconv.uint64pow10" = some 1 := by kernel_rfl
theorem tab_below {w w' : World} (h : Tab w) (hb : Below w.heap.size w w') : Tab w' := by
  unfold Tab Lib.TabIs World.var? at h ⊢
  rw [gTab] at h ⊢
  simp only [Option.bind_some] at h ⊢
  have hlt : 1 < w.heap.size := by
    rcases Nat.lt_or_ge 1 w.heap.size with h' | h'
    · exact h'
    · simp [Array.getElem?_eq_none h'] at h
  rw [hb.block _ hlt]; exact h
def tI (n : Int) : ByteArray := ⟨(Lib.itoa n).toArray⟩
theorem dd_len : ∀ (k u : Nat), u < 10 ^ (k + 1) → (Lib.decDigits u).length ≤ k + 1
  | k, u, h => by
    rw [Lib.decDigits]
    split
    · simp
    · rename_i h10
      match k, h with
      | 0, h => simp at h; omega
      | k + 1, h =>
        have := dd_len k (u / 10) (by rw [Nat.pow_succ] at h; omega)
        simp; omega
theorem u8n (n : Nat) : (UInt8.ofNat n).toNat = n % 256 := by simp
theorem dd_dig : ∀ (u : Nat), ∀ c ∈ Lib.decDigits u, 48 ≤ c.toNat ∧ c.toNat ≤ 57 := by
  intro u
  induction u using Nat.strongRecOn with
  | ind u ih =>
    rw [Lib.decDigits]
    split
    · intro c hc
      rw [List.mem_singleton.1 hc, u8n]; omega
    · rename_i h10
      intro c hc
      rcases List.mem_append.1 hc with hc | hc
      · exact ih (u / 10) (by omega) c hc
      · rw [List.mem_singleton.1 hc, u8n]; omega
def val (l : List UInt8) : Nat := l.foldl (fun a c => a * 10 + (c.toNat - 48)) 0
theorem val_dd : ∀ (u : Nat), val (Lib.decDigits u) = u := by
  intro u
  induction u using Nat.strongRecOn with
  | ind u ih =>
    rw [Lib.decDigits]
    split
    · simp only [val, List.foldl_cons, List.foldl_nil, u8n]; omega
    · rename_i h10
      have := ih (u / 10) (by omega)
      unfold val at this ⊢
      rw [List.foldl_append, this]
      simp only [List.foldl_cons, List.foldl_nil, u8n]; omega
theorem cut_at {s : UInt8} : ∀ {l1 l2 r1 r2 : List UInt8}, s ∉ l1 → s ∉ l2 → l1 ++ s :: r1 = l2 ++ s :: r2 → l1 = l2 ∧ r1 = r2
  | [], [], _, _, _, _, h => by injection h with _ h; exact ⟨rfl, h⟩
  | [], y :: l2, _, _, _, h2, h => by injection h with h _; exact absurd (by rw [h]; exact List.mem_cons_self ..) h2
  | x :: l1, [], _, _, h1, _, h => by injection h with h _; exact absurd (by rw [h]; exact List.mem_cons_self ..) h1
  | x :: l1, y :: l2, r1, r2, h1, h2, h => by
    injection h with e h
    have := cut_at (fun g => h1 (List.mem_cons_of_mem _ g)) (fun g => h2 (List.mem_cons_of_mem _ g)) h
    exact ⟨by rw [e, this.1], this.2⟩
theorem itoa_nat {n : Int} (h : 0 ≤ n) : Lib.itoa n = Lib.decDigits n.toNat := by unfold Lib.itoa; rw [if_neg (by omega)]
theorem itoa_inj {a b : Int} (ha : 0 ≤ a) (hb : 0 ≤ b) (h : Lib.itoa a = Lib.itoa b) : a = b := by
  rw [itoa_nat ha, itoa_nat hb] at h
  have := congrArg val h
  rw [val_dd, val_dd] at this; omega
theorem itoa_no {a : Int} (ha : 0 ≤ a) : (47 : UInt8) ∉ Lib.itoa a := fun h => by
  rw [itoa_nat ha] at h
  have := (dd_dig _ _ h).1
  exact absurd this (by decide)
theorem tI_size {n : Int} (h0 : 0 ≤ n) (h : n ≤ 255) : (tI n).size ≤ 3 := by
  show (Lib.itoa n).toArray.size ≤ 3
  rw [itoa_nat h0]
  have := dd_len 2 n.toNat (by omega)
  simpa using this
theorem itoa_no45 {a : Int} (ha : 0 ≤ a) : (45 : UInt8) ∉ Lib.itoa a := fun h => by
  rw [itoa_nat ha] at h
  have := (dd_dig _ _ h).1
  exact absurd this (by decide)
theorem itoa_ne {a : Int} (ha : 0 ≤ a) : Lib.itoa a ≠ [] := by
  rw [itoa_nat ha, Lib.decDigits]; split <;> simp
end Go.Proofs.YtiocomefkckbfaaDoor
set_option linter.unusedSimpArgs false
set_option linter.unusedVariables false
namespace Go.Proofs.YtiocomefkckbfaaDoor
open Go.RowKit

/-- The numbers of a path, a stroke behind each. -/
def kts (p : List Int) : List UInt8 := (p.map fun x => Lib.itoa x ++ [45]).flatten
def kt (p : List Int) : ByteArray := ⟨(kts p).toArray⟩
theorem kt_snoc (p : List Int) (x : Int) : kt (p ++ [x]) = kt p ++ (tI x ++ ⟨#[45]⟩) := by
  unfold kt tI kts
  apply ByteArray.ext
  simp
theorem tI_size8 {n : Int} (h0 : -1000000 ≤ n) (h1 : n ≤ 1000000) : (tI n).size ≤ 8 := by
  show (Lib.itoa n).toArray.size ≤ 8
  unfold Lib.itoa
  split
  · have := dd_len 6 n.natAbs (by omega)
    simp; omega
  · have := dd_len 6 n.natAbs (by omega)
    have h2 := dd_len 6 n.toNat (by omega)
    simp; omega
theorem kt_size : ∀ (p : List Int), (∀ x ∈ p, -1000000 ≤ x ∧ x ≤ 1000000) → (kt p).size ≤ 9 * p.length
  | [], _ => by show (kts []).toArray.size ≤ 0; simp [kts]
  | x :: p, h => by
    have ih := kt_size p (fun y hy => h y (List.mem_cons_of_mem _ hy))
    have h1 := h x (List.mem_cons_self ..)
    have h2 := tI_size8 h1.1 h1.2
    have h3 : (Lib.itoa x).length ≤ 8 := by simpa [tI, ByteArray.size] using h2
    have h4 : (kts p).length ≤ 9 * p.length := by simpa [kt, ByteArray.size] using ih
    show (kts (x :: p)).toArray.size ≤ _
    have : kts (x :: p) = Lib.itoa x ++ [45] ++ kts p := by simp [kts]
    rw [this]; simp; omega
set_option maxHeartbeats 2000000 in
theorem key_any (b t f n : Int) (pv : Value) (p : List Int) (w : World) (hp : Ints w pv p) (hsm : ∀ x ∈ p, -1000000 ≤ x ∧ x ≤ 1000000) (hT : Tab w) (hpl : p.length ≤ 1000) :
    Calls Tryd.prog 35 #[.agg #[.int .i64 b, .int .i64 t, .int .i64 f, .int .i64 n, pv]] w fun e w' => e = .returned (.agg #[.int .i64 b, .int .i64 t, .int .i64 f, .int .i64 n, .string (kt p)]) ∧ Below w.heap.size w w' := by
  obtain ⟨ao, m, cap, rfl, hm, hmc, hcap⟩ := hp.sl
  have hF := ((Fb.start w).alloc [.int .i64 b, .int .i64 t, .int .i64 f, .int .i64 n, .slice ao m cap] 28).alloc [.int .i64 0, .int .i64 0, .int .i64 0, .int .i64 0, .string ⟨#[]⟩] 63
  simp only [World.size_alloc] at hF
  have HP := Lib.hid hp
  have HT := Lib.hid hT
  clear hp hT
  have o := hF.own; simp only [World.size_alloc, World.size_drew, World.size_setCell, List.mem_cons, List.not_mem_nil, or_false, forall_eq_or_imp, forall_eq, At, and_true, Nat.zero_add, Nat.reduceAdd, List.set_cons_zero, List.set_cons_succ] at o
  go_enter Tryd.func35, Tryd.ntmps35
  go_wp2
  go_loopw [3, 9] (fun s i wr => ∃ k : Nat, k ≤ m ∧ i = .int .i64 k ∧ s = .string (kt (p.take k)) ∧ Fb w wr [(w.heap.size + 1, [.int .i64 0, .int .i64 0, .int .i64 0, .int .i64 0, .string ⟨#[]⟩]), (w.heap.size, [.int .i64 b, .int .i64 t, .int .i64 f, .int .i64 n, .slice ao m cap])]) (fun _ i _ => m - (intOf i).toNat)
  case atStart => exact ⟨0, Nat.zero_le _, rfl, rfl, hF⟩
  case round =>
    clear hF o
    obtain ⟨k, hk, rfl, rfl, hF⟩ := hrel
    by_cases hlt : k < m
    · obtain ⟨b1, o1, rfl⟩ := Ints.some HP.out (by omega)
      obtain ⟨x, hx⟩ := get_of hm.out hlt
      have HX := Lib.hid hx
      have hb := hsm x (List.mem_of_getElem? hx)
      have s1 := tI_size8 hb.1 hb.2
      have s3 := kt_size (p.take k) (fun y hy => hsm y (List.mem_of_mem_take hy))
      rw [List.length_take] at s3
      obtain ⟨S, hS⟩ : ∃ S, Hid (tI x = S) := ⟨_, rfl⟩
      obtain ⟨R, hR⟩ : ∃ R, Hid (kt (p.take k) = R) := ⟨_, rfl⟩
      rw [hS.out] at s1
      rw [hR.out] at s3 ⊢
      have hI := Lib.hid (fun w (ht : Tab w) => (show Calls Tryd.prog 57 #[.int .i64 x] w fun e w' => e = .returned (.string S) ∧ Below w.heap.size w w' from by have := Itoa_full x (by omega) (by omega) w ht; rw [← hS.out]; exact this))
      have s5 : ¬ 9223372036854775807 < S.size + 1 := by omega
      have s6 : ¬ 9223372036854775807 < R.size + (S.size + 1) := by omega
      have s7 : ¬ 9223372036854775807 < (S ++ ⟨#[45]⟩).size := by rw [ByteArray.size_append]; show ¬ 9223372036854775807 < S.size + 1; omega
      have s8 : ¬ 9223372036854775807 < (R ++ (S ++ ⟨#[45]⟩)).size := by rw [ByteArray.size_append, ByteArray.size_append]; show ¬ 9223372036854775807 < R.size + (S.size + 1); omega
      clear hx
      have c0 := hF.old (Ints.get HP.out HX.out)
      have o := hF.own; simp only [World.size_alloc, World.size_drew, World.size_setCell, List.mem_cons, List.not_mem_nil, or_false, forall_eq_or_imp, forall_eq, At, and_true, Nat.zero_add, Nat.reduceAdd, List.set_cons_zero, List.set_cons_succ] at o
      go_wp2_with (go_at_call 57; go_must (refine (hI.out _ (tab_below HT.out hF.kp)).mono ?_); rintro e wx ⟨rfl, hbx⟩; replace hF := hF.below hbx; clear hbx o c0; have o := hF.own; simp only [World.size_alloc, World.size_drew, World.size_setCell, List.mem_cons, List.not_mem_nil, or_false, forall_eq_or_imp, forall_eq, At, and_true, Nat.zero_add, Nat.reduceAdd, List.set_cons_zero, List.set_cons_succ] at o)
      go_roundw
      case rel => exact ⟨k + 1, by omega, by go_num, by rw [take_succ' HX.out, kt_snoc, hS.out, hR.out], hF⟩
      case measure => simp [intOf]; omega
    · have hkm : p.take k = p := List.take_of_length_le (by rw [hm.out]; omega)
      rw [hkm]
      have o := hF.own; simp only [World.size_alloc, World.size_drew, World.size_setCell, List.mem_cons, List.not_mem_nil, or_false, forall_eq_or_imp, forall_eq, At, and_true, Nat.zero_add, Nat.reduceAdd, List.set_cons_zero, List.set_cons_succ] at o
      go_wp2
      refine bodyPost_ret (v := .agg #[.int .i64 b, .int .i64 t, .int .i64 f, .int .i64 n, .string (kt p)]) ?_ rfl ?_
      · simp [results, Tryd.results35, go_sem, o]
      · exact ⟨rfl, (by have kp := hF.kp; exact (by repeat (first | exact Below.refl _ _ | assumption | (refine Below.setCell ?_ (by dsimp only; omega) _) | (refine Below.alloc ?_ (by first | (simp only [World.size_alloc, World.size_setCell, World.size_drew]; omega) | omega) _) | apply Below.drew | (refine Below.trans ?_ (Below.mono (by assumption) (by first | (simp only [World.size_alloc, World.size_setCell, World.size_drew]; omega) | omega))))))⟩
end Go.Proofs.YtiocomefkckbfaaDoor
set_option linter.unusedSimpArgs false
set_option linter.unusedVariables false
namespace Go.Proofs.YtiocomefkckbfaaDoor
open Go.RowKit

theorem dd_no45 (u : Nat) : (45 : UInt8) ∉ Lib.decDigits u := fun h => by
  have := (dd_dig _ _ h).1
  exact absurd this (by decide)
theorem dd_ne (u : Nat) : Lib.decDigits u ≠ [] := fun h => by
  rw [Lib.decDigits] at h
  split at h <;> simp at h
theorem itoa_neg {n : Int} (h : n < 0) : Lib.itoa n = 45 :: Lib.decDigits n.natAbs := by unfold Lib.itoa; rw [if_pos h]
theorem itoa_cut {x y : Int} {r s : List UInt8} (h : Lib.itoa x ++ 45 :: r = Lib.itoa y ++ 45 :: s) : x = y ∧ r = s := by
  have hv : ∀ a b : Nat, Lib.decDigits a = Lib.decDigits b → a = b := fun a b e => by have := congrArg val e; rwa [val_dd, val_dd] at this
  have hh : ∀ (a : Nat) (t u : List UInt8), Lib.decDigits a ++ 45 :: t = 45 :: u → False := fun a t u e => by
    have h1 := dd_ne a
    have h2 := dd_no45 a
    cases hd : Lib.decDigits a with
    | nil => exact h1 hd
    | cons z l =>
      rw [hd] at e h2
      injection e with e _
      exact h2 (by rw [e]; exact List.mem_cons_self ..)
  by_cases hx : x < 0
  · by_cases hy : y < 0
    · rw [itoa_neg hx, itoa_neg hy] at h
      injection h with _ h
      have := cut_at (dd_no45 _) (dd_no45 _) h
      have e := hv _ _ this.1
      exact ⟨by omega, this.2⟩
    · rw [itoa_neg hx, itoa_nat (by omega)] at h
      exact (hh _ _ _ h.symm).elim
  · by_cases hy : y < 0
    · rw [itoa_neg hy, itoa_nat (by omega)] at h
      exact (hh _ _ _ h).elim
    · rw [itoa_nat (by omega), itoa_nat (by omega)] at h
      have := cut_at (dd_no45 _) (dd_no45 _) h
      have e := hv _ _ this.1
      exact ⟨by omega, this.2⟩
theorem kts_cons (x : Int) (p : List Int) : kts (x :: p) = Lib.itoa x ++ 45 :: kts p := by simp [kts]
theorem kts_inj : ∀ {p q : List Int}, kts p = kts q → p = q
  | [], [], _ => rfl
  | [], y :: q, h => by rw [kts_cons] at h; simp [kts] at h
  | x :: p, [], h => by rw [kts_cons] at h; simp [kts] at h
  | x :: p, y :: q, h => by
    rw [kts_cons, kts_cons] at h
    have h1 := itoa_cut h
    rw [h1.1, kts_inj h1.2]
theorem kt_inj {p q : List Int} (h : kt p = kt q) : p = q := by
  unfold kt at h
  injection h with h
  exact kts_inj (by simpa using congrArg Array.toList h)
end Go.Proofs.YtiocomefkckbfaaDoor
