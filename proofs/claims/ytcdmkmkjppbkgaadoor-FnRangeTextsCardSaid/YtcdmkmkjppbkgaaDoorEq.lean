/- FnRangeTexts: the walk. -/
import Derived.Test.YtcdmkmkjppbkgaaDoorEp
import Derived.Test.YtcdmkmkjppbkgaaDoorDy
import Derived.Test.YtcdmkmkjppbkgaaDoorR3
import Derived.Test.YtcdmkmkjppbkgaaDoorKe
set_option linter.unusedSimpArgs false
set_option linter.unusedVariables false
namespace Go.Proofs.YtcdmkmkjppbkgaaDoor
open Go.RowKit

theorem gTab : Tryd.prog.globalNamed "internal/strconv.uint64pow10" = some 1 := by kernel_rfl
theorem tab_below {w w' : World} (h : Tab w) (hb : Below w.heap.size w w') : Tab w' := by
  unfold Tab Lib.TabIs World.var? at h ⊢
  rw [gTab] at h ⊢
  simp only [Option.bind_some] at h ⊢
  have hlt : 1 < w.heap.size := by
    rcases Nat.lt_or_ge 1 w.heap.size with h' | h'
    · exact h'
    · simp [Array.getElem?_eq_none h'] at h
  rw [hb.block _ hlt]; exact h
def tI (n : Int) : ByteArray := ⟨(Lib.itoa n).toArray⟩
theorem dd_len : ∀ (k u : Nat), u < 10 ^ (k + 1) → (Lib.decDigits u).length ≤ k + 1
  | k, u, h => by
    rw [Lib.decDigits]
    split
    · simp
    · rename_i h10
      match k, h with
      | 0, h => simp at h; omega
      | k + 1, h =>
        have := dd_len k (u / 10) (by rw [Nat.pow_succ] at h; omega)
        simp; omega
theorem u8n (n : Nat) : (UInt8.ofNat n).toNat = n % 256 := by simp
theorem dd_dig : ∀ (u : Nat), ∀ c ∈ Lib.decDigits u, 48 ≤ c.toNat ∧ c.toNat ≤ 57 := by
  intro u
  induction u using Nat.strongRecOn with
  | ind u ih =>
    rw [Lib.decDigits]
    split
    · intro c hc
      rw [List.mem_singleton.1 hc, u8n]; omega
    · rename_i h10
      intro c hc
      rcases List.mem_append.1 hc with hc | hc
      · exact ih (u / 10) (by omega) c hc
      · rw [List.mem_singleton.1 hc, u8n]; omega
def val (l : List UInt8) : Nat := l.foldl (fun a c => a * 10 + (c.toNat - 48)) 0
theorem val_dd : ∀ (u : Nat), val (Lib.decDigits u) = u := by
  intro u
  induction u using Nat.strongRecOn with
  | ind u ih =>
    rw [Lib.decDigits]
    split
    · simp only [val, List.foldl_cons, List.foldl_nil, u8n]; omega
    · rename_i h10
      have := ih (u / 10) (by omega)
      unfold val at this ⊢
      rw [List.foldl_append, this]
      simp only [List.foldl_cons, List.foldl_nil, u8n]; omega
theorem cut_at {s : UInt8} : ∀ {l1 l2 r1 r2 : List UInt8}, s ∉ l1 → s ∉ l2 → l1 ++ s :: r1 = l2 ++ s :: r2 → l1 = l2 ∧ r1 = r2
  | [], [], _, _, _, _, h => by injection h with _ h; exact ⟨rfl, h⟩
  | [], y :: l2, _, _, _, h2, h => by injection h with h _; exact absurd (by rw [h]; exact List.mem_cons_self ..) h2
  | x :: l1, [], _, _, h1, _, h => by injection h with h _; exact absurd (by rw [h]; exact List.mem_cons_self ..) h1
  | x :: l1, y :: l2, r1, r2, h1, h2, h => by
    injection h with e h
    have := cut_at (fun g => h1 (List.mem_cons_of_mem _ g)) (fun g => h2 (List.mem_cons_of_mem _ g)) h
    exact ⟨by rw [e, this.1], this.2⟩
theorem itoa_nat {n : Int} (h : 0 ≤ n) : Lib.itoa n = Lib.decDigits n.toNat := by unfold Lib.itoa; rw [if_neg (by omega)]
theorem itoa_inj {a b : Int} (ha : 0 ≤ a) (hb : 0 ≤ b) (h : Lib.itoa a = Lib.itoa b) : a = b := by
  rw [itoa_nat ha, itoa_nat hb] at h
  have := congrArg val h
  rw [val_dd, val_dd] at this; omega
theorem itoa_no {a : Int} (ha : 0 ≤ a) : (47 : UInt8) ∉ Lib.itoa a := fun h => by
  rw [itoa_nat ha] at h
  have := (dd_dig _ _ h).1
  exact absurd this (by decide)
theorem tI_size {n : Int} (h0 : 0 ≤ n) (h : n ≤ 255) : (tI n).size ≤ 3 := by
  show (Lib.itoa n).toArray.size ≤ 3
  rw [itoa_nat h0]
  have := dd_len 2 n.toNat (by omega)
  simpa using this
def txt (f b : Int) : ByteArray := tI f ++ ⟨#[47]⟩ ++ tI b
theorem txt_list (f b : Int) : (txt f b).data.toList = Lib.itoa f ++ 47 :: Lib.itoa b := by
  unfold txt tI
  simp [ByteArray.data_append]
theorem RangeText_any (f b : Int) (h : ROk f b) (w : World) (htab : Tab w) :
    Calls Tryd.prog 34 #[.agg #[.int .i64 f, .int .i64 b]] w fun e w' => e = .returned (.string (txt f b)) ∧ Below w.heap.size w w' := by
  have d1 : decide (ROk f b) = true := by simp [h]
  obtain ⟨h1, h2, h3, h4, -⟩ := h
  have s1 := tI_size h3 h4
  have s2 := tI_size h1 (by omega)
  have hF := (Fb.start w).alloc [.int .i64 f, .int .i64 b] 39
  have HT := Lib.hid htab
  clear htab
  go_enter Tryd.func34, Tryd.ntmps34
  go_wp2_with fail
  refine (iRangeOk_any f b _).mono ?_; rintro e w1 ⟨rfl, hb1⟩
  replace hF := hF.below hb1
  clear hb1
  have hT1 := Lib.hid (fun x : Cl w1.heap.size w1 => tab_below HT.out (hF.cl x).kp)
  have oc := fun x : Cl _ w1 => (Fb.cl hF x).own; simp only [World.size_alloc, World.size_drew, World.size_setCell, List.mem_cons, List.not_mem_nil, or_false, forall_eq_or_imp, forall_eq, At, and_true, Nat.zero_add, Nat.reduceAdd, List.set_cons_zero, List.set_cons_succ] at oc
  have hI := Lib.hid (fun (n : Int) (g0 : 0 ≤ n) (g1 : n ≤ 255) w (ht : Tab w) => (show Calls Tryd.prog 56 #[.int .i64 n] w fun e w' => e = .returned (.string (tI n)) ∧ Below w.heap.size w w' from Itoa_full n (by omega) (by omega) w ht))
  have s3 : (tI f ++ ⟨#[47]⟩).size ≤ 4 := by rw [ByteArray.size_append]; show (tI f).size + 1 ≤ 4; omega
  have s4 : (tI f ++ ⟨#[47]⟩ ++ tI b).size ≤ 7 := by rw [ByteArray.size_append]; omega
  go_wp2_with fail
  first | refine wp_region_new (by kernel_rfl) (by kernel_rfl) ?_ | refine wp_region_lex ?_
  repeat (any_goals (first | go_big_quiet_step (((go_at_call 56; exact Calls.cl (hI.out _ (by omega) (by omega) _ (hT1.out _))))) | (refine wpQuiet_step (fun K hK => ?_); go_simp; split <;> (rename_i hg; refine hK _ ?_; clear hK K; simp only [hg, decide_true, decide_false]))))
  all_goals (refine wpQuiet_nil ?_; intro x)
  go_wp2
  go_ret
  exact ⟨rfl, (hF.cl x).kp⟩
set_option maxHeartbeats 2000000 in
theorem FnRangeTexts_walk (a0 : Option Addr) (n0 c0 : Nat) (w : World) (h0 : Given w (.slice a0 n0 c0)) (htab : Tab w) :
    Calls Tryd.prog 10 #[.slice a0 n0 c0] w fun e w' => e = .returned (.bool true) ∧ Below w.heap.size w w' := by
  by_cases hn0 : 1048576 < n0
  · have e0 : decide (1048576 < (n0 : Int)) = true := by simp; omega
    go_enter Tryd.func10, Tryd.ntmps10
    go_wp2
    go_ret
    exact ⟨rfl, Below.refl _ _⟩
  have e0 : decide (1048576 < (n0 : Int)) = false := by simp; omega
  have hF := Fb.start w
  have HT := Lib.hid htab
  clear htab
  go_enter Tryd.func10, Tryd.ntmps10
  go_wp2_with fail
  refine (drawCmp_any _ _ h0).mono ?_; rintro e w1 ⟨a, b, c, d, rfl, sA, sC, hb1⟩
  replace hF := ((hF.below hb1).alloc [.int .i64 a, .int .i64 b] 39).alloc [.int .i64 c, .int .i64 d] 39
  clear sA sC hb1 h0
  go_wp2_with fail
  generalize hbe : w1.heap.size = be at *
  simp only [World.size_alloc, hbe] at hF
  obtain ⟨N, hN⟩ : ∃ N, RC a b c d = N := ⟨_, rfl⟩
  have hNN : (N != N) = false := by simp
  have hNe : (N == N) = true := by simp
  refine (iRangeCmp_any _ _ _ _ _).mono ?_; rintro e w2 ⟨rfl, hb2⟩
  replace hF := hF.below hb2
  clear hb2 hbe
  have o := hF.own; simp only [World.size_alloc, World.size_drew, World.size_setCell, List.mem_cons, List.not_mem_nil, or_false, forall_eq_or_imp, forall_eq, At, and_true, Nat.zero_add, Nat.reduceAdd, List.set_cons_zero, List.set_cons_succ] at o
  by_cases h1 : ROk a b
  · have d1 : decide (ROk a b) = true := by simp [h1]
    by_cases h2 : ROk c d
    · have d2 : decide (ROk c d) = true := by simp [h2]
      obtain ⟨Q, hQ⟩ : ∃ Q : Bool, (a == c && b == d) = Q := ⟨_, rfl⟩
      have heql : ∀ w, (binOp .eql 39 (.agg #[.int .i64 a, .int .i64 b]) (.agg #[.int .i64 c, .int .i64 d])).run Tryd.prog w = .ok (.bool Q) w := fun w => by rw [rng_eql, hQ]
      have hQQ : (Q == Q) = true := by simp
      have hq : ((txt a b).toList == (txt c d).toList) = Q := by
        rw [← hQ]
        by_cases e : a = c ∧ b = d
        · obtain ⟨rfl, rfl⟩ := e; simp
        · have n1 : (txt a b).toList ≠ (txt c d).toList := fun g => by
            rw [ByteArray.toList_eq, ByteArray.toList_eq, txt_list, txt_list] at g
            have h3 := cut_at (itoa_no h1.2.2.1) (itoa_no h2.2.2.1) g
            exact e ⟨itoa_inj h1.2.2.1 h2.2.2.1 h3.1, itoa_inj h1.1 h2.1 h3.2⟩
          have n2 : (a == c && b == d) = false := by
            rw [Bool.eq_false_iff]; intro g; simp at g; exact e g
          rw [n2]; simpa using n1
      clear hQ
      have hR := Lib.hid (fun (f b : Int) (g : ROk f b) w (ht : Tab w) => RangeText_any f b g w ht)
      go_wp2_with (first | (go_at_call 32; go_must (refine (sRangeCmp_any _ _ _ _ _).mono ?_); rintro e wx ⟨rfl, hbx⟩; replace hF := hF.below hbx; clear hbx o; have o := hF.own; simp only [World.size_alloc, World.size_drew, World.size_setCell, List.mem_cons, List.not_mem_nil, or_false, forall_eq_or_imp, forall_eq, At, and_true, Nat.zero_add, Nat.reduceAdd, List.set_cons_zero, List.set_cons_succ] at o) | (go_at_call 33; go_must (refine (sRangeOk_any _ _ _).mono ?_); rintro e wx ⟨rfl, hbx⟩; replace hF := hF.below hbx; clear hbx o; have o := hF.own; simp only [World.size_alloc, World.size_drew, World.size_setCell, List.mem_cons, List.not_mem_nil, or_false, forall_eq_or_imp, forall_eq, At, and_true, Nat.zero_add, Nat.reduceAdd, List.set_cons_zero, List.set_cons_succ] at o))
      have hT1 := Lib.hid (fun x : Cl wx.heap.size wx => tab_below HT.out (hF.cl x).kp)
      clear o
      have oc := fun x : Cl _ wx => (Fb.cl hF x).own; simp only [World.size_alloc, World.size_drew, World.size_setCell, List.mem_cons, List.not_mem_nil, or_false, forall_eq_or_imp, forall_eq, At, and_true, Nat.zero_add, Nat.reduceAdd, List.set_cons_zero, List.set_cons_succ] at oc
      first | refine wp_region_new (by kernel_rfl) (by kernel_rfl) ?_ | refine wp_region_lex ?_
      repeat (any_goals (first | go_big_quiet_step (((go_at_call 34; exact Calls.cl (hR.out _ _ (by assumption) _ (hT1.out _))))) | (refine wpQuiet_step (fun K hK => ?_); go_simp; split <;> (rename_i hg; refine hK _ ?_; clear hK K; simp only [hg, decide_true, decide_false]))))
      all_goals (refine wpQuiet_nil ?_; intro x)
      go_wp2
      go_ret
      exact ⟨by simp [hQQ], (hF.cl x).kp⟩
    · have d2 : decide (ROk c d) = false := by simp [h2]
      clear h1 h2
      go_wp2_with (first | (go_at_call 32; go_must (refine (sRangeCmp_any _ _ _ _ _).mono ?_); rintro e wx ⟨rfl, hbx⟩; replace hF := hF.below hbx; clear hbx o; have o := hF.own; simp only [World.size_alloc, World.size_drew, World.size_setCell, List.mem_cons, List.not_mem_nil, or_false, forall_eq_or_imp, forall_eq, At, and_true, Nat.zero_add, Nat.reduceAdd, List.set_cons_zero, List.set_cons_succ] at o) | (go_at_call 33; go_must (refine (sRangeOk_any _ _ _).mono ?_); rintro e wx ⟨rfl, hbx⟩; replace hF := hF.below hbx; clear hbx o; have o := hF.own; simp only [World.size_alloc, World.size_drew, World.size_setCell, List.mem_cons, List.not_mem_nil, or_false, forall_eq_or_imp, forall_eq, At, and_true, Nat.zero_add, Nat.reduceAdd, List.set_cons_zero, List.set_cons_succ] at o))
      go_ret
      exact ⟨rfl, hF.kp⟩
  · have d1 : decide (ROk a b) = false := by simp [h1]
    clear h1
    go_wp2_with (first | (go_at_call 32; go_must (refine (sRangeCmp_any _ _ _ _ _).mono ?_); rintro e wx ⟨rfl, hbx⟩; replace hF := hF.below hbx; clear hbx o; have o := hF.own; simp only [World.size_alloc, World.size_drew, World.size_setCell, List.mem_cons, List.not_mem_nil, or_false, forall_eq_or_imp, forall_eq, At, and_true, Nat.zero_add, Nat.reduceAdd, List.set_cons_zero, List.set_cons_succ] at o) | (go_at_call 33; go_must (refine (sRangeOk_any _ _ _).mono ?_); rintro e wx ⟨rfl, hbx⟩; replace hF := hF.below hbx; clear hbx o; have o := hF.own; simp only [World.size_alloc, World.size_drew, World.size_setCell, List.mem_cons, List.not_mem_nil, or_false, forall_eq_or_imp, forall_eq, At, and_true, Nat.zero_add, Nat.reduceAdd, List.set_cons_zero, List.set_cons_succ] at o))
    go_ret
    exact ⟨rfl, hF.kp⟩
end Go.Proofs.YtcdmkmkjppbkgaaDoor
