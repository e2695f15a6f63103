/- FnSealMake: the walk. Halves of ranges, plain. What lacks: plain laws. -/
import Derived.Test.YtiocomefkckbfaaDoorZ16
import Derived.Test.YtiocomefkckbfaaDoorZ19
import Derived.Test.YtiocomefkckbfaaDoorZ9
set_option linter.unusedSimpArgs false
set_option linter.unusedVariables false
namespace Go.Proofs.YtiocomefkckbfaaDoor
open Go.RowKit Go.Maps Go.WideMaps

theorem lySeals_same (v1 v2 : Value) (L : List Sl) (w : World) (h1 : Sls w v1 L) (h2 : Sls w v2 L) :
    Calls Tryd.prog 17 #[v1, v2] w fun e w' => e = .returned (.bool true) ∧ Below w.heap.size w w' := by
  have := lySeals_any v1 v2 L L w h1 h2
  rwa [decide_eq_true rfl] at this
theorem sealsOf_len (ti f n lk : Int) (P M : List Int) : (sealsOf ti f n lk P M).length ≤ P.length := by
  unfold sealsOf; split
  · rw [mkN_len]; exact Nat.le_refl _
  · simp
set_option maxRecDepth 100000 in
set_option maxHeartbeats 8000000 in
theorem FnSealMake_walk (a0 : Option Addr) (n0 c0 : Nat) (a : Addr) (w : World) (h0 : Given w (.slice a0 n0 c0)) (hE : EPath w a) (htab : Tab w) :
    Calls Tryd.prog 4 #[.slice a0 n0 c0] w fun e w' => e = .returned (.bool true) ∧ Below w.heap.size w w' := by
  by_cases hn0 : 1048576 < n0
  · have e0 : decide (1048576 < (n0 : Int)) = true := by simp; omega
    go_enter Tryd.func4, Tryd.ntmps4
    go_wp2
    go_ret
    exact ⟨rfl, Below.refl _ _⟩
  have e0 : decide (1048576 < (n0 : Int)) = false := by simp; omega
  have hF := Fb.start w
  go_enter Tryd.func4, Tryd.ntmps4
  go_wp2_with fail
  refine (drawSealMake_any _ _ h0).mono ?_; rintro e w1 ⟨g, c, lk, ti, pv, mv, P, M, rfl, hp, hm, hP4, hM9, ht0, ht6, hb1⟩
  replace hp := hp.1
  replace hm := hm.1
  obtain ⟨o1, c1, rfl, hnc, hcc, -⟩ := hp.ex
  obtain ⟨o2, c2, rfl, -⟩ := hm.ex
  replace hF := (hF.below hb1).alloc [.int .i64 g, .int .i64 c, .slice o1 P.length c1, .int .i64 lk, .slice o2 M.length c2] 35
  have hb2 := (Below.refl w1.heap.size w1).alloc (Nat.le_refl _) (.cells #[.int .i64 g, .int .i64 c, .slice o1 P.length c1, .int .i64 lk, .slice o2 M.length c2] 35)
  replace hp := Rows.below hp hb2
  replace hm := Rows.below hm hb2
  replace hE := (hE.below hb1).below hb2
  replace htab := tab_below (tab_below htab hb1) hb2
  obtain ⟨n5, hn5⟩ : ∃ n, w1.heap.size = n := ⟨_, rfl⟩
  rw [hn5] at hF
  clear hb1 hb2 h0
  have o := hF.own; simp only [World.size_alloc, World.size_drew, World.size_setCell, List.mem_cons, List.not_mem_nil, or_false, forall_eq_or_imp, forall_eq, At, and_true, Nat.zero_add, Nat.reduceAdd, List.set_cons_zero, List.set_cons_succ] at o
  go_wp2_with fail
  refine (iSealMake_any g c lk _ _ P M ti a _ hp hm hE (by have := hP4.1; omega)).mono ?_; rintro e w2 ⟨u, rfl, hS, hb2⟩
  replace hF := hF.below hb2
  replace hp := Rows.below hp hb2
  replace hm := Rows.below hm hb2
  replace hE := hE.below hb2
  replace htab := tab_below htab hb2
  clear o
  have o := hF.own; simp only [World.size_alloc, World.size_drew, World.size_setCell, List.mem_cons, List.not_mem_nil, or_false, forall_eq_or_imp, forall_eq, At, and_true, Nat.zero_add, Nat.reduceAdd, List.set_cons_zero, List.set_cons_succ] at o
  go_wp2_with fail
  refine (sSealMake_any g c lk _ _ P M ti _ hp hm (by have := hP4.1; omega)).mono ?_; rintro e w3 ⟨u2, rfl, hS2, -, hb3⟩
  replace hF := hF.below hb3
  replace hp := Rows.below hp hb3
  replace hm := Rows.below hm hb3
  replace hE := hE.below hb3
  replace htab := tab_below htab hb3
  clear o
  replace hS := hS.below hb3
  have o := hF.own; simp only [World.size_alloc, World.size_drew, World.size_setCell, List.mem_cons, List.not_mem_nil, or_false, forall_eq_or_imp, forall_eq, At, and_true, Nat.zero_add, Nat.reduceAdd, List.set_cons_zero, List.set_cons_succ] at o
  go_wp2_with fail
  refine (lySeals_same _ _ _ _ hS.sls hS2.sls).mono ?_; rintro e w4 ⟨rfl, hb4⟩
  replace hF := hF.below hb4
  replace hp := Rows.below hp hb4
  replace hm := Rows.below hm hb4
  replace hE := hE.below hb4
  replace htab := tab_below htab hb4
  clear o
  replace hS := hS.below hb4
  have o := hF.own; simp only [World.size_alloc, World.size_drew, World.size_setCell, List.mem_cons, List.not_mem_nil, or_false, forall_eq_or_imp, forall_eq, At, and_true, Nat.zero_add, Nat.reduceAdd, List.set_cons_zero, List.set_cons_succ] at o
  clear hS2 hb2 hb3 hb4
  obtain ⟨us, uc, rfl⟩ := hS.sl
  by_cases k1 : SMk ti g c lk P M
  · have hq : Hid (sealsOf ti g c lk P M = mkN ti g c P P.length) := if_pos k1
    rw [hq.out, mkN_len] at hS
    rw [hq.out, mkN_len]
    have hn0 : 0 < P.length := k1.1.2.1
    have HM := Lib.hid (k1.sm (by have := hP4.1; omega) (Nat.le_refl _))
    clear k1 hq
    have d0 : ((P.length : Int) == 0) = false := by rw [beq_eq_false_iff_ne]; omega
    obtain ⟨b, off, rfl⟩ := Ints.some hp hn0
    go_wp2
    obtain ⟨⟨q0, -, q1, -, q2, -⟩, -⟩ := o
    have HC := Lib.hid (⟨q0, q1, q2⟩ : w4.cell? ⟨n5, 0, none⟩ = some (.int .i64 g) ∧ w4.cell? ⟨n5, 1, none⟩ = some (.int .i64 c) ∧ w4.cell? ⟨n5, 2, none⟩ = some (.slice (some ⟨b, off, none⟩) P.length c1))
    have HS := Lib.hid hS.sls
    have HP := Lib.hid hp
    have HT := Lib.hid htab
    have HF := Lib.hid hF.kp
    have hQ := Fb.start w4
    clear hS hp hm hE htab hF q0 q1 q2
    go_loopw [6] (fun i wr => ∃ (k : Nat), k ≤ P.length ∧ i = .int .i64 k ∧ Fb w4 wr []) (fun i _ => P.length - (intOf i).toNat)
    case atStart => exact ⟨0, Nat.zero_le _, rfl, hQ⟩
    case round =>
      clear hQ
      obtain ⟨k, hk, rfl, hQ⟩ := hrel
      have e0 := hQ.old HC.out.1
      have e1 := hQ.old HC.out.2.1
      have e2 := hQ.old HC.out.2.2
      by_cases hlt : k < P.length
      · obtain ⟨x, hx⟩ := get_lt hlt
        obtain ⟨b1, p1, rfl⟩ := HS.out.adr (by omega)
        have hsk := mkN_at (ti := ti) (g := g) (c := c) (P := P) hlt
        rw [sAt_is, getD_of hx] at hsk
        have c5 := hQ.old (Ints.get HP.out hx)
        obtain ⟨a1, m1, k1, s0, s1, s2, s3, s4, g1⟩ := (HS.out.below hQ.kp).at hsk
        dsimp only at s0 s1 s2 s3 s4 g1
        have HG := Lib.hid g1
        have HM1 := Lib.hid (HM.out _ (List.mem_of_getElem? hsk))
        have HIN : Hid (decide ((x, tvAt ti P k, g, c, P.drop k) ∈ mkN ti g c P P.length) = true) := decide_eq_true (List.mem_of_getElem? hsk)
        clear hx hsk g1
        by_cases hk0 : k = 0
        · have hg0 : decide (0 < k) = false := by simp [hk0]
          have htv : tvAt ti P k = ti := by simp [tvAt, hk0]
          rw [htv] at s1 HM1 HIN
          clear hk0 htv
          go_wp2
          have t0 := fun z : Cl wr.heap.size wr => z.cell e0
          have t1 := fun z : Cl wr.heap.size wr => z.cell e1
          have t2 := fun z : Cl wr.heap.size wr => z.cell e2
          have t5 := fun z : Cl wr.heap.size wr => z.cell c5
          have u0 := fun z : Cl wr.heap.size wr => z.cell s0
          have u1 := fun z : Cl wr.heap.size wr => z.cell s1
          have u2 := fun z : Cl wr.heap.size wr => z.cell s2
          have u3 := fun z : Cl wr.heap.size wr => z.cell s3
          have u4 := fun z : Cl wr.heap.size wr => z.cell s4
          clear e0 e1 e2 c5 s0 s1 s2 s3 s4
          have n1 : (x != x) = false := by simp
          have n2 : (ti != ti) = false := by simp
          have n3 : ∀ w, (binOp .neq 25 (.agg #[.int .i64 g, .int .i64 c]) (.agg #[.int .i64 g, .int .i64 c])).run Tryd.prog w = .ok (.bool false) w := fun w => by rw [rng_neq]; simp
          have g0 : (0 : Int) ≤ (k : Int) := by omega
          have g1 : (k : Int) ≤ (P.length : Int) := by omega
          have g2 : (k : Int) ≤ (c1 : Int) := by omega
          have g3 : ¬ c1 = k := by omega
          have g4 : IntKind.i64.wrap (k : Int) = (k : Int) := IntWalk.i64_in _ (by omega)
          have HL := Lib.hid (fun z : Cl wr.heap.size wr => (show Calls Tryd.prog 14 #[.slice a1 m1 k1, .slice (some ⟨b, off + k, none⟩) (P.length - k) (c1 - k)] z.W fun e w' => e = .returned (.bool true) ∧ Below z.W.heap.size z.W w' from by have := lyInts_any _ _ (P.drop k) (P.drop k) z.W (Rows.below HG.out z.below) (ints_dropS (Rows.below HP.out (hQ.cl z).kp) (by omega)); rwa [decide_eq_true rfl] at this))
          have HH := Lib.hid (fun z : Cl wr.heap.size wr => (show Calls Tryd.prog 12 #[.slice (some ⟨b1, p1, none⟩) P.length uc, .agg #[.int .i64 x, .int .i64 ti, .int .i64 g, .int .i64 c, .slice a1 m1 k1]] z.W fun e w' => e = .returned (.bool true) ∧ Below z.W.heap.size z.W w' from by have := iSealHas_any _ _ (mkN ti g c P P.length) (x, ti, g, c, P.drop k) z.W (HS.out.below (hQ.cl z).kp) (Rows.below HG.out z.below) (by rw [mkN_len]; have := hP4.1; omega) HM.out HM1.out (tab_below HT.out (hQ.cl z).kp); rwa [HIN.out] at this))
          first | refine wp_region_new (by kernel_rfl) (by kernel_rfl) ?_ | refine wp_region_lex ?_
          repeat (any_goals (first | go_big_quiet_step ((first | (go_at_call 14; exact Calls.cl (HL.out _)) | (go_at_call 12; exact Calls.cl (HH.out _)))) | (refine wpQuiet_step (fun K hK => ?_); go_simp; split <;> (rename_i hg; refine hK _ ?_; clear hK K; simp only [hg, decide_true, decide_false]))))
          all_goals (refine wpQuiet_nil ?_; intro x)
          go_wp2
          go_roundw
          case rel => exact ⟨k + 1, by omega, by go_num, hQ.cl ‹_›⟩
          case measure => simp [intOf]; omega
        · have hg0 : decide (0 < k) = true := by simp; omega
          obtain ⟨y, hy⟩ := get_lt (show k - 1 < P.length by omega)
          have htv : tvAt ti P k = y := by simp [tvAt, hk0, List.getD, hy]
          have cy := hQ.old (Ints.get HP.out hy)
          have hy1 : 1 ≤ (k : Int) := by omega
          have hy2 : ((k : Int) - 1).toNat = k - 1 := by omega
          rw [htv] at s1 HM1 HIN
          clear hy hk0 htv
          go_wp2
          clear cy hy2
          have t0 := fun z : Cl wr.heap.size wr => z.cell e0
          have t1 := fun z : Cl wr.heap.size wr => z.cell e1
          have t2 := fun z : Cl wr.heap.size wr => z.cell e2
          have t5 := fun z : Cl wr.heap.size wr => z.cell c5
          have u0 := fun z : Cl wr.heap.size wr => z.cell s0
          have u1 := fun z : Cl wr.heap.size wr => z.cell s1
          have u2 := fun z : Cl wr.heap.size wr => z.cell s2
          have u3 := fun z : Cl wr.heap.size wr => z.cell s3
          have u4 := fun z : Cl wr.heap.size wr => z.cell s4
          clear e0 e1 e2 c5 s0 s1 s2 s3 s4
          have n1 : (x != x) = false := by simp
          have n2 : (y != y) = false := by simp
          have n3 : ∀ w, (binOp .neq 25 (.agg #[.int .i64 g, .int .i64 c]) (.agg #[.int .i64 g, .int .i64 c])).run Tryd.prog w = .ok (.bool false) w := fun w => by rw [rng_neq]; simp
          have g0 : (0 : Int) ≤ (k : Int) := by omega
          have g1 : (k : Int) ≤ (P.length : Int) := by omega
          have g2 : (k : Int) ≤ (c1 : Int) := by omega
          have g3 : ¬ c1 = k := by omega
          have g4 : IntKind.i64.wrap (k : Int) = (k : Int) := IntWalk.i64_in _ (by omega)
          have HL := Lib.hid (fun z : Cl wr.heap.size wr => (show Calls Tryd.prog 14 #[.slice a1 m1 k1, .slice (some ⟨b, off + k, none⟩) (P.length - k) (c1 - k)] z.W fun e w' => e = .returned (.bool true) ∧ Below z.W.heap.size z.W w' from by have := lyInts_any _ _ (P.drop k) (P.drop k) z.W (Rows.below HG.out z.below) (ints_dropS (Rows.below HP.out (hQ.cl z).kp) (by omega)); rwa [decide_eq_true rfl] at this))
          have HH := Lib.hid (fun z : Cl wr.heap.size wr => (show Calls Tryd.prog 12 #[.slice (some ⟨b1, p1, none⟩) P.length uc, .agg #[.int .i64 x, .int .i64 y, .int .i64 g, .int .i64 c, .slice a1 m1 k1]] z.W fun e w' => e = .returned (.bool true) ∧ Below z.W.heap.size z.W w' from by have := iSealHas_any _ _ (mkN ti g c P P.length) (x, y, g, c, P.drop k) z.W (HS.out.below (hQ.cl z).kp) (Rows.below HG.out z.below) (by rw [mkN_len]; have := hP4.1; omega) HM.out HM1.out (tab_below HT.out (hQ.cl z).kp); rwa [HIN.out] at this))
          first | refine wp_region_new (by kernel_rfl) (by kernel_rfl) ?_ | refine wp_region_lex ?_
          repeat (any_goals (first | go_big_quiet_step ((first | (go_at_call 14; exact Calls.cl (HL.out _)) | (go_at_call 12; exact Calls.cl (HH.out _)))) | (refine wpQuiet_step (fun K hK => ?_); go_simp; split <;> (rename_i hg; refine hK _ ?_; clear hK K; simp only [hg, decide_true, decide_false]))))
          all_goals (refine wpQuiet_nil ?_; intro x)
          go_wp2
          go_roundw
          case rel => exact ⟨k + 1, by omega, by go_num, hQ.cl ‹_›⟩
          case measure => simp [intOf]; omega
      · have hkn : k = P.length := by omega
        subst hkn
        go_wp2
        go_ret
        exact ⟨by simp, HF.out.trans (hQ.kp.mono HF.out.size)⟩
  · have hq : Hid (sealsOf ti g c lk P M = []) := if_neg k1
    rw [hq.out] at hS ⊢
    clear k1
    simp only [List.length_nil] at hS ⊢
    go_wp2_with fail
    refine (sSealMake_any g c lk _ _ P M ti _ hp hm (by have := hP4.1; omega)).mono ?_; rintro e w3 ⟨u2, rfl, hS2, -, hb3⟩
    replace hF := hF.below hb3
    replace hS := hS.below hb3
    rw [hq.out] at hS2
    go_wp2_with fail
    refine (lySeals_same _ _ _ _ hS.sls hS2.sls).mono ?_; rintro e w4 ⟨rfl, hb4⟩
    replace hF := hF.below hb4
    clear hb3 hb4 hS hS2
    go_wp2
    go_ret
    exact ⟨rfl, hF.kp⟩
end Go.Proofs.YtiocomefkckbfaaDoor
set_option linter.unusedSimpArgs false
set_option linter.unusedVariables false
namespace Go.Proofs.YtiocomefkckbfaaDoor
open Go.RowKit

/-- A half of a range: its first address, its bits; whether there is one. -/
def Hlf (f b : Int) : Prop := ROk f b ∧ b ≠ 8
instance (f b : Int) : Decidable (Hlf f b) := by unfold Hlf; infer_instance
def hF (f b : Int) (up : Bool) : Int := if Hlf f b then f + (if up then sz (b + 1) else 0) else 0
def hB (f b : Int) : Int := if Hlf f b then b + 1 else 0
def hlfV (f b : Int) (up : Bool) : Value := .tuple #[.agg #[.int .i64 (hF f b up), .int .i64 (hB f b)], .bool (decide (Hlf f b))]

theorem sz_dvd {c d : Int} (h : d ≤ c) : ∃ m : Int, sz d = sz c * m := by
  refine ⟨2 ^ ((8 - d).toNat - (8 - c).toNat), ?_⟩
  unfold sz
  rw [← Int.pow_add]
  congr 1
  omega
/-- Two multiples of s apart are at least s apart. -/
theorem mul_gap {s x y : Int} (hs : 1 ≤ s) (hx : x % s = 0) (hy : y % s = 0) (h : x < y) : x + s ≤ y := by
  obtain ⟨p, hp⟩ := Int.dvd_of_emod_eq_zero hx
  obtain ⟨q, hq⟩ := Int.dvd_of_emod_eq_zero hy
  rw [hp, hq] at h ⊢
  have h1 : p < q := by
    rcases Int.lt_or_le p q with h' | h'
    · exact h'
    · have := Int.mul_le_mul_of_nonneg_left h' (show 0 ≤ s by omega); omega
  have h2 := Int.mul_le_mul_of_nonneg_left (show p + 1 ≤ q by omega) (show 0 ≤ s by omega)
  rw [Int.mul_add, Int.mul_one] at h2
  exact h2
theorem sz_half {b : Int} (h0 : 0 ≤ b) (h8 : b < 8) : sz b = 2 * sz (b + 1) := by
  obtain ⟨k, rfl⟩ := Int.eq_ofNat_of_zero_le h0
  unfold sz
  have e : (8 - (k : Int)).toNat = (8 - ((k : Int) + 1)).toNat + 1 := by omega
  rw [e, Int.pow_succ]; omega
theorem half_ok {f b : Int} (up : Bool) (h : Hlf f b) : ROk (hF f b up) (hB f b) := by
  obtain ⟨⟨h0, h8, hf, hf', hm⟩, h9⟩ := h
  have hs := sz_half h0 (by omega)
  have hp := sz_pos (b + 1)
  have hH : Hlf f b := ⟨⟨h0, h8, hf, hf', hm⟩, h9⟩
  simp only [hF, hB, if_pos hH]
  obtain ⟨q, hq⟩ := Int.dvd_of_emod_eq_zero hm
  have hq' : f = sz (b + 1) * (2 * q) := by rw [hq, hs]; rw [Int.mul_comm 2, Int.mul_assoc]
  have h256 : f + sz b ≤ 256 := by
    have hd : (256 : Int) % sz b = 0 := by
      obtain ⟨m, hm'⟩ := sz_dvd (show (0:Int) ≤ b from h0)
      have : sz 0 = 256 := by decide
      rw [this] at hm'; rw [hm']; exact Int.mul_emod_right _ _
    exact mul_gap (sz_pos b) hm hd (by omega)
  refine ⟨by omega, by omega, ?_, ?_, ?_⟩
  · split <;> omega
  · split <;> omega
  · split
    · rw [hq', show sz (b + 1) * (2 * q) + sz (b + 1) = sz (b + 1) * (2 * q + 1) by rw [Int.mul_add, Int.mul_one]]; exact Int.mul_emod_right _ _
    · rw [hq', Int.add_zero]; exact Int.mul_emod_right _ _
theorem hF_of {f b : Int} (h : Hlf f b) : hF f b true = f + sz (b + 1) ∧ hF f b false = f ∧ hB f b = b + 1 := by
  simp [hF, hB, h]
theorem half_split {f b : Int} (up : Bool) (h : Hlf f b) (x : Int) :
    (RHas f b x ↔ RHas (hF f b up) (hB f b) x ∨ RHas (hF f b (!up)) (hB f b) x) ∧ ¬ (RHas (hF f b up) (hB f b) x ∧ RHas (hF f b (!up)) (hB f b) x) := by
  have k1 := half_ok up h
  have k2 := half_ok (!up) h
  have hs := sz_half h.1.1 (by have := h.1.2.1; have := h.2; omega)
  have hp := sz_pos (b + 1)
  obtain ⟨e1, e2, e3⟩ := hF_of h
  unfold RHas
  simp only [k1, k2, h.1, true_and]
  by_cases hA : Adr x
  · simp only [hA, true_and]
    cases up <;> simp only [Bool.not_true, Bool.not_false, e1, e2, e3, Cov] <;> omega
  · simp [hA]
end Go.Proofs.YtiocomefkckbfaaDoor
set_option linter.unusedSimpArgs false
set_option linter.unusedVariables false
namespace Go.Proofs.YtiocomefkckbfaaDoor
open Go.RowKit

theorem lk9_zero {L : List Sl} : ∀ {K : List Sl}, (∀ s ∈ K, s.1 ≠ 0) → (lk9 L K = 0 ↔ ∀ s ∈ K, s ∈ L)
  | [], _ => by simp [lk9]
  | s :: r, h => by
    by_cases hs : s ∈ L
    · simp only [lk9, if_pos hs]
      rw [lk9_zero (fun y hy => h y (List.mem_cons_of_mem _ hy))]
      simp [hs]
    · simp only [lk9, if_neg hs]
      have := h s (List.mem_cons_self ..)
      simp [this, hs]
theorem SMk.pos {ti g c lk : Int} {P M : List Int} (h : SMk ti g c lk P M) {k : Nat} (hk : k < P.length) : 1 ≤ P.getD k 0 ∧ P.getD k 0 ≤ 5 := h.1.2.2.1.1 _ (getD_mem hk)
theorem SMk.ne0 {ti g c lk : Int} {P M : List Int} (h : SMk ti g c lk P M) : ∀ s ∈ mkN ti g c P P.length, s.1 ≠ 0 := fun s hs => by
  obtain ⟨k, hk, rfl⟩ := mkN_mem hs
  have := h.pos hk
  show P.getD k 0 ≠ 0
  omega
theorem mem_mkN {ti g c : Int} {P : List Int} {n k : Nat} (h : k < n) : sAt ti g c P k ∈ mkN ti g c P n := List.mem_of_getElem? (mkN_at h)
theorem lacks_ok {H : List HoldD} {L : List Sl} {ti g c lk : Int} {P M : List Int} : (lacks H L ti g c lk P M == 0) = true ↔ SMk ti g c lk P M ∧ H.any (holdsP (lastP P) g c) = true ∧ ∀ k, k < P.length → sAt ti g c P k ∈ L := by
  rw [beq_iff_eq]
  unfold lacks
  by_cases h1 : SMk ti g c lk P M
  · rw [if_pos h1]
    by_cases h2 : H.any (holdsP (lastP P) g c) = true
    · rw [if_pos h2, lk9_zero h1.ne0]
      exact ⟨fun h => ⟨h1, h2, fun k hk => h _ (mem_mkN hk)⟩, fun h s hs => by obtain ⟨k, hk, rfl⟩ := mkN_mem hs; exact h.2.2 k hk⟩
    · rw [if_neg h2]
      simp [h2]
  · rw [if_neg h1]
    simp [h1]
theorem lacks_no {H : List HoldD} {L : List Sl} {ti g c lk : Int} {P M : List Int} (h : ¬ (SMk ti g c lk P M ∧ H.any (holdsP (lastP P) g c) = true ∧ ∀ k, k < P.length → sAt ti g c P k ∈ L)) : (lacks H L ti g c lk P M == 0) = false := by
  rw [Bool.eq_false_iff]; exact fun q => h (lacks_ok.1 q)
theorem sz0 : sz 0 = 256 := by decide
theorem rin_all {g c : Int} (h : ROk g c) : RIn g c 0 0 := by
  refine ⟨h, ⟨by omega, by omega, by omega, by omega, by rw [sz0]; rfl⟩, h.1, ?_⟩
  have := h.2.2
  unfold Cov
  rw [sz0]; omega
theorem holds_all {x g c : Int} (h : ROk g c) : ([⟨x, 0, 0⟩] : List HoldD).any (holdsP x g c) = true := by
  simp [holdsP, rin_all h]
theorem seal_own {ti g c lk : Int} {P M : List Int} (h : SMk ti g c lk P M) : (lacks [⟨lastP P, 0, 0⟩] (mkN ti g c P P.length) ti g c lk P M == 0) = true :=
  lacks_ok.2 ⟨h, holds_all h.1.1, fun k hk => mem_mkN hk⟩
theorem seal_range {ti g c lk g' c' : Int} {P M : List Int} {H : List HoldD} (h0 : 0 < P.length) (hc : c' ≠ c) : (lacks H (mkN ti g c P P.length) ti g' c' lk P M == 0) = false :=
  lacks_no fun q => by
    have h1 := q.2.2 0 h0
    obtain ⟨k, hk, e⟩ := mkN_mem h1
    unfold sAt at e
    simp only [Prod.mk.injEq] at e
    exact hc e.2.2.2.1
theorem hlf_bits {f b : Int} (h : Hlf f b) : hB f b ≠ b := by
  unfold hB; rw [if_pos h]; omega
end Go.Proofs.YtiocomefkckbfaaDoor
