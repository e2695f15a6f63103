/- FnSealMake: the walk. RangeHalf of the program: a range over a function. RangeHalf of the program. -/
import Derived.Test.YtiocomefkckbfaaDoorZ16
import Derived.Test.YtiocomefkckbfaaDoorZ20
import Derived.RangeFuncNested
import Derived.RangeFuncBound
import Derived.RangeFuncCalls
import Derived.RangeFuncLeaves
import Derived.Shelf.Abstract
import Derived.Shelf.RegionOpen
import Derived.OwnWalkIn
import Derived.TacticsInMore
import Derived.LoopNIn
import Derived.LoopIn
import Derived.IntWalk
import Derived.Test.YtiocomefkckbfaaDoorZ2
set_option linter.unusedSimpArgs false
set_option linter.unusedVariables false
namespace Go.Proofs.YtiocomefkckbfaaDoor
open Go.RowKit Go.Maps Go.WideMaps

theorem lySeals_same (v1 v2 : Value) (L : List Sl) (w : World) (h1 : Sls w v1 L) (h2 : Sls w v2 L) :
    Calls Tryd.prog 17 #[v1, v2] w fun e w' => e = .returned (.bool true) ∧ Below w.heap.size w w' := by
  have := lySeals_any v1 v2 L L w h1 h2
  rwa [decide_eq_true rfl] at this
theorem sealsOf_len (ti f n lk : Int) (P M : List Int) : (sealsOf ti f n lk P M).length ≤ P.length := by
  unfold sealsOf; split
  · rw [mkN_len]; exact Nat.le_refl _
  · simp
set_option maxRecDepth 100000 in
set_option maxHeartbeats 8000000 in
theorem FnSealMake_walk (a0 : Option Addr) (n0 c0 : Nat) (a : Addr) (w : World) (h0 : Given w (.slice a0 n0 c0)) (hE : EPath w a) (htab : Tab w) :
    Calls Tryd.prog 4 #[.slice a0 n0 c0] w fun e w' => e = .returned (.bool true) ∧ Below w.heap.size w w' := by
  by_cases hn0 : 1048576 < n0
  · have e0 : decide (1048576 < (n0 : Int)) = true := by simp; omega
    go_enter Tryd.func4, Tryd.ntmps4
    go_wp2
    go_ret
    exact ⟨rfl, Below.refl _ _⟩
  have e0 : decide (1048576 < (n0 : Int)) = false := by simp; omega
  have hF := Fb.start w
  go_enter Tryd.func4, Tryd.ntmps4
  go_wp2_with fail
  refine (drawSealMake_any _ _ h0).mono ?_; rintro e w1 ⟨g, c, lk, ti, pv, mv, P, M, rfl, hp, hm, hP4, hM9, ht0, ht6, hb1⟩
  replace hp := hp.1
  replace hm := hm.1
  obtain ⟨o1, c1, rfl, hnc, hcc, -⟩ := hp.ex
  obtain ⟨o2, c2, rfl, -⟩ := hm.ex
  replace hF := (hF.below hb1).alloc [.int .i64 g, .int .i64 c, .slice o1 P.length c1, .int .i64 lk, .slice o2 M.length c2] 35
  have hb2 := (Below.refl w1.heap.size w1).alloc (Nat.le_refl _) (.cells #[.int .i64 g, .int .i64 c, .slice o1 P.length c1, .int .i64 lk, .slice o2 M.length c2] 35)
  replace hp := Rows.below hp hb2
  replace hm := Rows.below hm hb2
  replace hE := (hE.below hb1).below hb2
  replace htab := tab_below (tab_below htab hb1) hb2
  obtain ⟨n5, hn5⟩ : ∃ n, w1.heap.size = n := ⟨_, rfl⟩
  rw [hn5] at hF
  clear hb1 hb2 h0
  have o := hF.own; simp only [World.size_alloc, World.size_drew, World.size_setCell, List.mem_cons, List.not_mem_nil, or_false, forall_eq_or_imp, forall_eq, At, and_true, Nat.zero_add, Nat.reduceAdd, List.set_cons_zero, List.set_cons_succ] at o
  go_wp2_with fail
  refine (iSealMake_any g c lk _ _ P M ti a _ hp hm hE (by have := hP4.1; omega)).mono ?_; rintro e w2 ⟨u, rfl, hS, hb2⟩
  replace hF := hF.below hb2
  replace hp := Rows.below hp hb2
  replace hm := Rows.below hm hb2
  replace hE := hE.below hb2
  replace htab := tab_below htab hb2
  clear o
  have o := hF.own; simp only [World.size_alloc, World.size_drew, World.size_setCell, List.mem_cons, List.not_mem_nil, or_false, forall_eq_or_imp, forall_eq, At, and_true, Nat.zero_add, Nat.reduceAdd, List.set_cons_zero, List.set_cons_succ] at o
  go_wp2_with fail
  refine (sSealMake_any g c lk _ _ P M ti _ hp hm (by have := hP4.1; omega)).mono ?_; rintro e w3 ⟨u2, rfl, hS2, -, hb3⟩
  replace hF := hF.below hb3
  replace hp := Rows.below hp hb3
  replace hm := Rows.below hm hb3
  replace hE := hE.below hb3
  replace htab := tab_below htab hb3
  clear o
  replace hS := hS.below hb3
  have o := hF.own; simp only [World.size_alloc, World.size_drew, World.size_setCell, List.mem_cons, List.not_mem_nil, or_false, forall_eq_or_imp, forall_eq, At, and_true, Nat.zero_add, Nat.reduceAdd, List.set_cons_zero, List.set_cons_succ] at o
  go_wp2_with fail
  refine (lySeals_same _ _ _ _ hS.sls hS2.sls).mono ?_; rintro e w4 ⟨rfl, hb4⟩
  replace hF := hF.below hb4
  replace hp := Rows.below hp hb4
  replace hm := Rows.below hm hb4
  replace hE := hE.below hb4
  replace htab := tab_below htab hb4
  clear o
  replace hS := hS.below hb4
  have o := hF.own; simp only [World.size_alloc, World.size_drew, World.size_setCell, List.mem_cons, List.not_mem_nil, or_false, forall_eq_or_imp, forall_eq, At, and_true, Nat.zero_add, Nat.reduceAdd, List.set_cons_zero, List.set_cons_succ] at o
  clear hS2 hb2 hb3 hb4
  obtain ⟨us, uc, rfl⟩ := hS.sl
  by_cases k1 : SMk ti g c lk P M
  · have hq : Hid (sealsOf ti g c lk P M = mkN ti g c P P.length) := if_pos k1
    rw [hq.out, mkN_len] at hS
    rw [hq.out, mkN_len]
    have hn0 : 0 < P.length := k1.1.2.1
    have HM := Lib.hid (k1.sm (by have := hP4.1; omega) (Nat.le_refl _))
    clear k1 hq
    have d0 : ((P.length : Int) == 0) = false := by rw [beq_eq_false_iff_ne]; omega
    obtain ⟨b, off, rfl⟩ := Ints.some hp hn0
    go_wp2
    obtain ⟨⟨q0, -, q1, -, q2, -⟩, -⟩ := o
    have HC := Lib.hid (⟨q0, q1, q2⟩ : w4.cell? ⟨n5, 0, none⟩ = some (.int .i64 g) ∧ w4.cell? ⟨n5, 1, none⟩ = some (.int .i64 c) ∧ w4.cell? ⟨n5, 2, none⟩ = some (.slice (some ⟨b, off, none⟩) P.length c1))
    have HS := Lib.hid hS.sls
    have HP := Lib.hid hp
    have HT := Lib.hid htab
    have HF := Lib.hid hF.kp
    have hQ := Fb.start w4
    clear hS hp hm hE htab hF q0 q1 q2
    go_loopw [6] (fun i wr => ∃ (k : Nat), k ≤ P.length ∧ i = .int .i64 k ∧ Fb w4 wr []) (fun i _ => P.length - (intOf i).toNat)
    case atStart => exact ⟨0, Nat.zero_le _, rfl, hQ⟩
    case round =>
      clear hQ
      obtain ⟨k, hk, rfl, hQ⟩ := hrel
      have e0 := hQ.old HC.out.1
      have e1 := hQ.old HC.out.2.1
      have e2 := hQ.old HC.out.2.2
      by_cases hlt : k < P.length
      · obtain ⟨x, hx⟩ := get_lt hlt
        obtain ⟨b1, p1, rfl⟩ := HS.out.adr (by omega)
        have hsk := mkN_at (ti := ti) (g := g) (c := c) (P := P) hlt
        rw [sAt_is, getD_of hx] at hsk
        have c5 := hQ.old (Ints.get HP.out hx)
        obtain ⟨a1, m1, k1, s0, s1, s2, s3, s4, g1⟩ := (HS.out.below hQ.kp).at hsk
        dsimp only at s0 s1 s2 s3 s4 g1
        have HG := Lib.hid g1
        have HM1 := Lib.hid (HM.out _ (List.mem_of_getElem? hsk))
        have HIN : Hid (decide ((x, tvAt ti P k, g, c, P.drop k) ∈ mkN ti g c P P.length) = true) := decide_eq_true (List.mem_of_getElem? hsk)
        clear hx hsk g1
        by_cases hk0 : k = 0
        · have hg0 : decide (0 < k) = false := by simp [hk0]
          have htv : tvAt ti P k = ti := by simp [tvAt, hk0]
          rw [htv] at s1 HM1 HIN
          clear hk0 htv
          go_wp2
          have t0 := fun z : Cl wr.heap.size wr => z.cell e0
          have t1 := fun z : Cl wr.heap.size wr => z.cell e1
          have t2 := fun z : Cl wr.heap.size wr => z.cell e2
          have t5 := fun z : Cl wr.heap.size wr => z.cell c5
          have u0 := fun z : Cl wr.heap.size wr => z.cell s0
          have u1 := fun z : Cl wr.heap.size wr => z.cell s1
          have u2 := fun z : Cl wr.heap.size wr => z.cell s2
          have u3 := fun z : Cl wr.heap.size wr => z.cell s3
          have u4 := fun z : Cl wr.heap.size wr => z.cell s4
          clear e0 e1 e2 c5 s0 s1 s2 s3 s4
          have n1 : (x != x) = false := by simp
          have n2 : (ti != ti) = false := by simp
          have n3 : ∀ w, (binOp .neq 25 (.agg #[.int .i64 g, .int .i64 c]) (.agg #[.int .i64 g, .int .i64 c])).run Tryd.prog w = .ok (.bool false) w := fun w => by rw [rng_neq]; simp
          have g0 : (0 : Int) ≤ (k : Int) := by omega
          have g1 : (k : Int) ≤ (P.length : Int) := by omega
          have g2 : (k : Int) ≤ (c1 : Int) := by omega
          have g3 : ¬ c1 = k := by omega
          have g4 : IntKind.i64.wrap (k : Int) = (k : Int) := IntWalk.i64_in _ (by omega)
          have HL := Lib.hid (fun z : Cl wr.heap.size wr => (show Calls Tryd.prog 14 #[.slice a1 m1 k1, .slice (some ⟨b, off + k, none⟩) (P.length - k) (c1 - k)] z.W fun e w' => e = .returned (.bool true) ∧ Below z.W.heap.size z.W w' from by have := lyInts_any _ _ (P.drop k) (P.drop k) z.W (Rows.below HG.out z.below) (ints_dropS (Rows.below HP.out (hQ.cl z).kp) (by omega)); rwa [decide_eq_true rfl] at this))
          have HH := Lib.hid (fun z : Cl wr.heap.size wr => (show Calls Tryd.prog 12 #[.slice (some ⟨b1, p1, none⟩) P.length uc, .agg #[.int .i64 x, .int .i64 ti, .int .i64 g, .int .i64 c, .slice a1 m1 k1]] z.W fun e w' => e = .returned (.bool true) ∧ Below z.W.heap.size z.W w' from by have := iSealHas_any _ _ (mkN ti g c P P.length) (x, ti, g, c, P.drop k) z.W (HS.out.below (hQ.cl z).kp) (Rows.below HG.out z.below) (by rw [mkN_len]; have := hP4.1; omega) HM.out HM1.out (tab_below HT.out (hQ.cl z).kp); rwa [HIN.out] at this))
          first | refine wp_region_new (by kernel_rfl) (by kernel_rfl) ?_ | refine wp_region_lex ?_
          repeat (any_goals (first | go_big_quiet_step ((first | (go_at_call 14; exact Calls.cl (HL.out _)) | (go_at_call 12; exact Calls.cl (HH.out _)))) | (refine wpQuiet_step (fun K hK => ?_); go_simp; split <;> (rename_i hg; refine hK _ ?_; clear hK K; simp only [hg, decide_true, decide_false]))))
          all_goals (refine wpQuiet_nil ?_; intro x)
          go_wp2
          go_roundw
          case rel => exact ⟨k + 1, by omega, by go_num, hQ.cl ‹_›⟩
          case measure => simp [intOf]; omega
        · have hg0 : decide (0 < k) = true := by simp; omega
          obtain ⟨y, hy⟩ := get_lt (show k - 1 < P.length by omega)
          have htv : tvAt ti P k = y := by simp [tvAt, hk0, List.getD, hy]
          have cy := hQ.old (Ints.get HP.out hy)
          have hy1 : 1 ≤ (k : Int) := by omega
          have hy2 : ((k : Int) - 1).toNat = k - 1 := by omega
          rw [htv] at s1 HM1 HIN
          clear hy hk0 htv
          go_wp2
          clear cy hy2
          have t0 := fun z : Cl wr.heap.size wr => z.cell e0
          have t1 := fun z : Cl wr.heap.size wr => z.cell e1
          have t2 := fun z : Cl wr.heap.size wr => z.cell e2
          have t5 := fun z : Cl wr.heap.size wr => z.cell c5
          have u0 := fun z : Cl wr.heap.size wr => z.cell s0
          have u1 := fun z : Cl wr.heap.size wr => z.cell s1
          have u2 := fun z : Cl wr.heap.size wr => z.cell s2
          have u3 := fun z : Cl wr.heap.size wr => z.cell s3
          have u4 := fun z : Cl wr.heap.size wr => z.cell s4
          clear e0 e1 e2 c5 s0 s1 s2 s3 s4
          have n1 : (x != x) = false := by simp
          have n2 : (y != y) = false := by simp
          have n3 : ∀ w, (binOp .neq 25 (.agg #[.int .i64 g, .int .i64 c]) (.agg #[.int .i64 g, .int .i64 c])).run Tryd.prog w = .ok (.bool false) w := fun w => by rw [rng_neq]; simp
          have g0 : (0 : Int) ≤ (k : Int) := by omega
          have g1 : (k : Int) ≤ (P.length : Int) := by omega
          have g2 : (k : Int) ≤ (c1 : Int) := by omega
          have g3 : ¬ c1 = k := by omega
          have g4 : IntKind.i64.wrap (k : Int) = (k : Int) := IntWalk.i64_in _ (by omega)
          have HL := Lib.hid (fun z : Cl wr.heap.size wr => (show Calls Tryd.prog 14 #[.slice a1 m1 k1, .slice (some ⟨b, off + k, none⟩) (P.length - k) (c1 - k)] z.W fun e w' => e = .returned (.bool true) ∧ Below z.W.heap.size z.W w' from by have := lyInts_any _ _ (P.drop k) (P.drop k) z.W (Rows.below HG.out z.below) (ints_dropS (Rows.below HP.out (hQ.cl z).kp) (by omega)); rwa [decide_eq_true rfl] at this))
          have HH := Lib.hid (fun z : Cl wr.heap.size wr => (show Calls Tryd.prog 12 #[.slice (some ⟨b1, p1, none⟩) P.length uc, .agg #[.int .i64 x, .int .i64 y, .int .i64 g, .int .i64 c, .slice a1 m1 k1]] z.W fun e w' => e = .returned (.bool true) ∧ Below z.W.heap.size z.W w' from by have := iSealHas_any _ _ (mkN ti g c P P.length) (x, y, g, c, P.drop k) z.W (HS.out.below (hQ.cl z).kp) (Rows.below HG.out z.below) (by rw [mkN_len]; have := hP4.1; omega) HM.out HM1.out (tab_below HT.out (hQ.cl z).kp); rwa [HIN.out] at this))
          first | refine wp_region_new (by kernel_rfl) (by kernel_rfl) ?_ | refine wp_region_lex ?_
          repeat (any_goals (first | go_big_quiet_step ((first | (go_at_call 14; exact Calls.cl (HL.out _)) | (go_at_call 12; exact Calls.cl (HH.out _)))) | (refine wpQuiet_step (fun K hK => ?_); go_simp; split <;> (rename_i hg; refine hK _ ?_; clear hK K; simp only [hg, decide_true, decide_false]))))
          all_goals (refine wpQuiet_nil ?_; intro x)
          go_wp2
          go_roundw
          case rel => exact ⟨k + 1, by omega, by go_num, hQ.cl ‹_›⟩
          case measure => simp [intOf]; omega
      · have hkn : k = P.length := by omega
        subst hkn
        go_wp2
        go_ret
        exact ⟨by simp, HF.out.trans (hQ.kp.mono HF.out.size)⟩
  · have hq : Hid (sealsOf ti g c lk P M = []) := if_neg k1
    rw [hq.out] at hS ⊢
    clear k1
    simp only [List.length_nil] at hS ⊢
    go_wp2_with fail
    refine (sSealMake_any g c lk _ _ P M ti _ hp hm (by have := hP4.1; omega)).mono ?_; rintro e w3 ⟨u2, rfl, hS2, -, hb3⟩
    replace hF := hF.below hb3
    replace hS := hS.below hb3
    rw [hq.out] at hS2
    go_wp2_with fail
    refine (lySeals_same _ _ _ _ hS.sls hS2.sls).mono ?_; rintro e w4 ⟨rfl, hb4⟩
    replace hF := hF.below hb4
    clear hb3 hb4 hS hS2
    go_wp2
    go_ret
    exact ⟨rfl, hF.kp⟩
end Go.Proofs.YtiocomefkckbfaaDoor
set_option linter.unusedSimpArgs false
set_option linter.unusedVariables false
namespace Go.Proofs.YtiocomefkckbfaaDoor
open Go.RowKit Go.Shelf
attribute [local go_sem] Oper.semAt_some

/-- What halves yields. -/
def halvesL (f b : Int) : List (Int × Int) := if b = 8 then [] else [(f, b + 1), (f + sz b / 2, b + 1)]
def encH (x : Int × Int) : Array Value := #[.agg #[.int .i64 x.1, .int .i64 x.2]]

theorem halves_in (n : Nat) (f b : Int) (w : World) :
    CallsIn Fence.wide n Tryd.prog 46 #[.agg #[.int .i64 f, .int .i64 b]] w fun e w' => e = .returned (.func (.func 69) #[] #[.pointer (some ⟨w.heap.size, 0, none⟩)]) ∧ w' = w.alloc (.cells #[.int .i64 f, .int .i64 b] 25) := by
  refine callsIn_of_wp Tryd.func46 rfl trivial ?_ rfl
  simp only [Tryd.ntmps46, List.size_toArray, List.length_cons, List.length_nil, Nat.reduceAdd, Nat.reduceSub, Array.replicate_succ, Array.replicate_zero, List.push_toArray, List.append_toArray, List.nil_append, List.cons_append]
  gi_wp2
  go_ret
  exact ⟨rfl, rfl⟩

set_option maxRecDepth 100000 in
set_option maxHeartbeats 1000000 in
theorem halves1_in (n : Nat) (hn : 2 ≤ n) (l Bn : Nat) (f b : Int) (hf : 0 ≤ f ∧ f ≤ 255) (hb0 : 0 ≤ b) (hb8 : b ≤ 8) (J Jx : List (Int × Int) → World → Prop)
    (hJ : ∀ s W W', J s W → Below W.heap.size W W' → J s W')
    (hY : ∀ pre x W, J pre W → pre.length < 2 → YieldAt Fence.wide (n - 1) Tryd.prog l (encH x) W fun e W' =>
      (e = .returned (.bool true) ∧ J (pre ++ [x]) W' ∧ Below (Bn + 1) W W') ∨ (e = .returned (.bool false) ∧ Jx (pre ++ [x]) W'))
    (W : World) (hc0 : W.cell? ⟨Bn, 0, none⟩ = some (.int .i64 f)) (hc1 : W.cell? ⟨Bn, 1, none⟩ = some (.int .i64 b)) (h0 : J [] W) :
    CallsIn Fence.wide n Tryd.prog 69 #[.func (.yield l) #[] #[], .pointer (some ⟨Bn, 0, none⟩)] W fun e W' => (∃ v, e = .returned v) ∧
      ((∃ ys, ys = halvesL f b ∧ J ys W') ∨ (∃ pre, pre <+: halvesL f b ∧ Jx pre W')) := by
  refine callsIn_of_wp Tryd.func69 rfl trivial ?_ rfl
  simp only [Tryd.ntmps69, List.size_toArray, List.length_cons, List.length_nil, Nat.reduceAdd, Nat.reduceSub, Array.replicate_succ, Array.replicate_zero, List.push_toArray, List.append_toArray, List.nil_append, List.cons_append]
  by_cases h8 : b = 8
  · subst h8
    gi_wp2
    refine bodyPost_ret (v := .tuple #[]) (by simp [results, Tryd.results69, go_sem]) rfl ?_
    exact ⟨⟨_, rfl⟩, .inl ⟨[], by simp [halvesL], h0⟩⟩
  · have e8 : (b == 8) = false := by simp [h8]
    have hL : Hid (halvesL f b = [(f, b + 1), (f + sz b / 2, b + 1)]) := by show halvesL f b = _; simp [halvesL, h8]
    have s1 := sz_pos b
    have s2 := sz_le b hb0
    obtain ⟨fn, tmps, assign, body, hy, hR⟩ := hY [] (f, b + 1) W h0 (by simp)
    dsimp only [encH] at hy
    gi_wp2
    refine ⟨fun _ => by omega, ?_⟩
    refine hR.mono ?_
    rintro e W3 (⟨rfl, hJ3, hk3⟩ | ⟨rfl, hJx3⟩)
    · have c0 := (hk3.cell (p := ⟨Bn, 0, none⟩) (by simp)).trans hc0
      have c1 := (hk3.cell (p := ⟨Bn, 1, none⟩) (by simp)).trans hc1
      clear hc0 hc1 hk3 hR hy
      gi_wp2
      have HY := Lib.hid (fun W4 (hJ4 : J [(f, b + 1)] W4) => hY [(f, b + 1)] (f + sz b / 2, b + 1) W4 hJ4 (by simp))
      have HJ := Lib.hid (fun W' => hJ _ _ W' hJ3)
      clear hY hJ hJ3 h0
      have wd : (sz b).tdiv 2 = sz b / 2 := Int.tdiv_eq_ediv_of_nonneg (by omega)
      have wq : 0 ≤ sz b / 2 ∧ sz b / 2 ≤ 128 := by omega
      obtain ⟨wq1, wq2⟩ := wq
      have w1 : IntKind.i64.wrap (sz b / 2) = sz b / 2 := IntWalk.i64_in _ (by omega)
      have w2 : IntKind.i64.wrap (f + sz b / 2) = f + sz b / 2 := IntWalk.i64_in _ (by omega)
      have w3 : IntKind.i64.wrap (b + 1) = b + 1 := IntWalk.i64_in _ (by omega)
      gi_region_with (first
        | (refine ⟨trivial, fun _ => by omega, ?_⟩; gi_at_call 68; refine (callsIn_wide.2 (many_any f b hb0 hb8 _)).mono ?_; rintro e W4 ⟨rfl, hb4⟩; have c41 : W4.cell? ⟨Bn, 1, none⟩ = some (.int .i64 b) := (hb4.cell (p := ⟨Bn, 1, none⟩) (World.block_lt_of_cell? W3 _ c1)).trans c1; have c40 : W4.cell? ⟨Bn, 0, none⟩ = some (.int .i64 f) := (hb4.cell (p := ⟨Bn, 0, none⟩) (World.block_lt_of_cell? W3 _ c0)).trans c0; obtain ⟨fn2, tmps2, assign2, body2, hy2, hR2⟩ := HY.out W4 (HJ.out W4 (by exact ((Below.refl _ _).drew).trans hb4)); clear hb4; dsimp only [encH] at hy2; replace hR2 := Lib.hid (hR2.mono (R' := fun e W' => ∃ bo : Bool, e = .returned (.bool bo) ∧ ((bo = true ∧ J ([(f, b + 1)] ++ [(f + sz b / 2, b + 1)]) W') ∨ (bo = false ∧ Jx ([(f, b + 1)] ++ [(f + sz b / 2, b + 1)]) W'))) (by rintro e W5 (⟨rfl, h5, -⟩ | ⟨rfl, h5⟩); exact ⟨true, rfl, Or.inl ⟨rfl, h5⟩⟩; exact ⟨false, rfl, Or.inr ⟨rfl, h5⟩⟩)))
        | (refine ⟨fun _ => by omega, ?_⟩; refine hR2.out.mono ?_; rintro e W5 ⟨bo, rfl, h5⟩))
      all_goals gi_wp2
      all_goals go_end0
      all_goals
        refine ⟨⟨_, rfl⟩, ?_⟩
        rcases h5 with ⟨-, h5⟩ | ⟨-, h5⟩
        · exact .inl ⟨_, hL.out.symm, h5⟩
        · exact .inr ⟨_, by rw [hL.out]; exact List.prefix_refl _, h5⟩
    · gi_wp2
      go_end0
      exact ⟨⟨_, rfl⟩, .inr ⟨_, ⟨[(f + sz b / 2, b + 1)], by rw [hL.out]; rfl⟩, hJx3⟩⟩
end Go.Proofs.YtiocomefkckbfaaDoor
set_option linter.unusedSimpArgs false
set_option linter.unusedVariables false
namespace Go.Proofs.YtiocomefkckbfaaDoor
open Go.RowKit Go.Shelf
attribute [local go_sem] Oper.semAt_some

theorem cell_hs2a (w : World) (u v : Value) (T : TypeId) : (w.alloc (.cells #[u, v] T)).cell? ⟨w.heap.size, 0, none⟩ = some u := by simp
theorem cell_hs2b (w : World) (u v : Value) (T : TypeId) : (w.alloc (.cells #[u, v] T)).cell? ⟨w.heap.size, 1, none⟩ = some v := by simp
theorem fb_own {β : Type} {w : World} {L : List (Nat × List Value)} {B : Nat} (hW : w.heap.size ≤ B) (hL : ∀ p ∈ L, p.1 < B) : OwnFrom B (fun (_ : β) W => Fb w W L ∧ B ≤ W.heap.size) := by
  intro s A A' row ⟨h, hB⟩ hg hr
  exact ⟨h.belowB ((Below.refl B A).grown hg hB (fun k e => (hr k e).1)) hW hL, Nat.le_trans hB hg.size⟩

theorem halves_stops (n Bn : Nat) (f b : Int) (hf : 0 ≤ f ∧ f ≤ 255) (hb0 : 0 ≤ b) (hb8 : b ≤ 8) (w : World) (hBn : Bn < w.heap.size) (hc0 : w.cell? ⟨Bn, 0, none⟩ = some (.int .i64 f)) (hc1 : w.cell? ⟨Bn, 1, none⟩ = some (.int .i64 b)) (hn : 2 ≤ n := by omega) :
    SeqStopsK Fence.wide n Tryd.prog 69 #[.pointer (some ⟨Bn, 0, none⟩)] encH (Below (Bn + 1)) (fun ys => ys = halvesL f b) (fun pre => pre <+: halvesL f b) 2 w := fun l J Jx W hW hJ _ hY h0 =>
  halves1_in n hn l Bn f b hf hb0 hb8 J Jx (fun s A B hs hb => hJ s A B none hs (below_grownBy hb) (fun r e => by cases e)) hY W ((hW.cell (p := ⟨Bn, 0, none⟩) hBn).trans hc0) ((hW.cell (p := ⟨Bn, 1, none⟩) hBn).trans hc1) h0

set_option maxRecDepth 100000 in
set_option maxHeartbeats 4000000 in
theorem iRangeHalf_ok (f b : Int) (up : Bool) (w : World) (h : ROk f b) :
    Calls Tryd.prog 21 #[.agg #[.int .i64 f, .int .i64 b], .bool up] w fun e w' => e = .returned (hlfV f b up) ∧ Below w.heap.size w w' := by
  refine (callsIn_wide (n := 9)).1 ?_
  have hd : decide (ROk f b) = true := by simp [h]
  have hF := ((((Fb.start w).alloc [.int .i64 f, .int .i64 b] 25).alloc [.bool up] 4).alloc [.int .i64 0, .int .i64 0] 25).alloc [.bool false] 4
  simp only [World.size_alloc] at hF
  refine callsIn_of_wp_marks Tryd.func21 rfl trivial ?_ rfl
  simp only [Tryd.ntmps21, List.size_toArray, List.length_cons, List.length_nil, Nat.reduceAdd, Nat.reduceSub, Array.replicate_succ, Array.replicate_zero, List.push_toArray, List.append_toArray, List.nil_append, List.cons_append]
  gi_wp2_with (first
    | (refine ⟨trivial, ?_⟩; gi_at_call 45; refine (callsIn_wide.2 (iRangeOk_any f b _)).mono ?_; rintro e W1 ⟨rfl, hb1⟩; replace hF := hF.below hb1; clear hb1; have o := hF.own; simp only [World.size_alloc, World.size_drew, World.size_setCell, List.mem_cons, List.not_mem_nil, or_false, forall_eq_or_imp, forall_eq, At, and_true, Nat.zero_add, Nat.reduceAdd, List.set_cons_zero, List.set_cons_succ] at o)
    | (refine ⟨trivial, ?_⟩; gi_at_call 46; refine (halves_in _ f b _).mono ?_; rintro e W2 ⟨rfl, rfl⟩))
  have h0 := h.1
  have h8 := h.2.1
  have hf0 := h.2.2.1
  have hf8 := h.2.2.2.1
  clear o
  obtain ⟨NN, hNN⟩ : ∃ NN, NN = W1.heap.size := ⟨_, rfl⟩
  have hN4 : w.heap.size + 4 ≤ W1.heap.size := by have := (hF.own (w.heap.size + 1 + 1 + 1, [.bool false]) (by simp)).2.2; dsimp only at this; omega
  have hFb := hF.other (.cells #[.int .i64 f, .int .i64 b] 25)
  refine wpIn_rangeFunc_ownH rfl (by omega) (gf := 69) (lb := #[.pointer (some ⟨W1.heap.size, 0, none⟩)]) rfl trivial (enters_of Tryd.func69 (by kernel_rfl) rfl)
    (halves_stops 8 W1.heap.size f b ⟨hf0, hf8⟩ h0 h8 (W1.alloc (.cells #[.int .i64 f, .int .i64 b] 25)) (by simp) (by simp) (by simp)) belowK_t (belowK_b (by simp)) (Below.refl _ _) (fun _ => rfl)
    (fun pre W => (∀ x ∈ pre, decide (f < x.1) ≠ up) ∧ (Fb w W [(w.heap.size + 1 + 1 + 1, [.bool false]), (w.heap.size + 1 + 1, [.int .i64 0, .int .i64 0]), (w.heap.size + 1, [.bool up]), (w.heap.size, [.int .i64 f, .int .i64 b])] ∧ W1.heap.size + 1 ≤ W.heap.size))
    (fun c pre W => (c = .ret ∧ ∃ x ∈ pre, decide (f < x.1) = up ∧ (Fb w W [(w.heap.size + 1 + 1 + 1, [.bool true]), (w.heap.size + 1 + 1, [.int .i64 x.1, .int .i64 x.2]), (w.heap.size + 1, [.bool up]), (w.heap.size, [.int .i64 f, .int .i64 b])] ∧ W1.heap.size + 1 ≤ W.heap.size)))
    ?hI ?hIx ⟨by simp, hFb, by simp⟩
    (fun x a' W => ∃ Bx, W1.heap.size < Bx ∧ W.cell? ⟨Bx, 0, none⟩ = some (.int .i64 x.1) ∧ W.cell? ⟨Bx, 1, none⟩ = some (.int .i64 x.2) ∧ a' = { tmps := #[.agg #[.int .i64 f, .int .i64 b], .bool up, .pointer (some ⟨w.heap.size, 0, none⟩), .pointer (some ⟨w.heap.size + 1, 0, none⟩), .pointer (some ⟨w.heap.size + 1 + 1, 0, none⟩), .pointer (some ⟨w.heap.size + 1 + 1 + 1, 0, none⟩), .pointer (some ⟨Bx, 0, none⟩), .agg #[.int .i64 f, .int .i64 b], .bool true, .bool false, undef, .agg #[.int .i64 f, .int .i64 b], .func (.func 69) #[] #[.pointer (some ⟨W1.heap.size, 0, none⟩)], .agg #[.int .i64 x.1, .int .i64 x.2], undef, undef, undef, undef, undef, undef, undef, undef, undef], defers := [] })
    ?hAx ?assign ?body ?done ?stop
  case hI =>
    rintro s A A' row ⟨hp, hf, hB⟩ hg hr
    exact ⟨hp, hf.belowB ((Below.refl (W1.heap.size + 1) A).grown hg hB (fun k e => by have := (hr k e).1; simpa using this)) (by omega) (by simp; omega), Nat.le_trans hB hg.size⟩
  case hIx =>
    rintro c s A A' row ⟨hc, x, hx, he, hf, hB⟩ hg hr
    exact ⟨hc, x, hx, he, hf.belowB ((Below.refl (W1.heap.size + 1) A).grown hg hB (fun k e => by have := (hr k e).1; simpa using this)) (by omega) (by simp; omega), Nat.le_trans hB hg.size⟩
  case hAx =>
    rintro x a' _ A A' row ⟨Bx, h1, h2, h3, h4⟩ hg hr
    exact ⟨Bx, h1, cell_kept h2 hg (fun r e => (hr r e).2), cell_kept h3 hg (fun r e => (hr r e).2), h4⟩
  case assign =>
    rintro l pre ⟨x1, x2⟩ W K ⟨hp, hFW, hB⟩ hK
    dsimp only [encH] at hK ⊢
    gi_wp2
    refine hK _ _ ((KeepsOthers.alloc _ _).from _) ((Below.refl _ W).alloc hB _) ⟨hp, hFW.other _, by simp; omega⟩ ⟨W.heap.size, by omega, ?_, ?_, rfl⟩
    · exact cell_hs2a _ _ _ _
    · exact cell_hs2b _ _ _ _
  case body =>
    rintro l pre ⟨x1, x2⟩ a' W hl ⟨r, hr⟩ ⟨hp, hFW, hB⟩ ⟨Bx, hBx, hx0, hx1, rfl⟩ hlt
    clear hF hFb hr hl
    have hF := hFW
    have o := hF.own; simp only [World.size_alloc, World.size_drew, World.size_setCell, List.mem_cons, List.not_mem_nil, or_false, forall_eq_or_imp, forall_eq, At, and_true, Nat.zero_add, Nat.reduceAdd, List.set_cons_zero, List.set_cons_succ] at o
    dsimp only at hx0 hx1
    by_cases he : decide (f < x1) = up
    · have he' : (decide (f < x1) == up) = true := by simp [he]
      clear he
      gi_wp2
      have h1 : Fb w W ((w.heap.size + 1 + 1, [.int .i64 0, .int .i64 0]) :: [(w.heap.size + 1 + 1 + 1, [.bool false]), (w.heap.size + 1, [.bool up]), (w.heap.size, [.int .i64 f, .int .i64 b])]) := hF.sub (by simp)
      have h2 := (h1.set 0 (.int .i64 x1) (by simp) (by simp; omega)).set 1 (.int .i64 x2) (by simp) (by simp; omega)
      have h3 : Fb w _ ((w.heap.size + 1 + 1 + 1, [.bool false]) :: [(w.heap.size + 1 + 1, [.int .i64 x1, .int .i64 x2]), (w.heap.size + 1, [.bool up]), (w.heap.size, [.int .i64 f, .int .i64 b])]) := h2.sub (by simp)
      exact ⟨(((KeepsOthers.setCell _ _ _).trans (KeepsOthers.setCell _ _ _)).trans (KeepsOthers.setCell _ _ _)).from _, rfl, (x1, x2), by simp, by simpa using he', h3.set 0 (.bool true) (by simp) (by simp; omega), by simp; omega⟩
    · have he' : (decide (f < x1) == up) = false := by simp [he]
      have HE := Lib.hid he
      clear he
      gi_wp2
      exact ⟨(KeepsOthers.refl _).from _, Below.refl _ _, fun y hy => (by rcases List.mem_append.1 hy with h | h; exact hp y h; rw [List.mem_singleton.1 h]; exact HE.out), hF, hB⟩
  case done =>
    rintro D ys W hD rfl ⟨hp, hFW, hB⟩ hK
    have e8 : b = 8 := by
      by_cases e : b = 8
      · exact e
      · exfalso
        rw [show halvesL f b = [(f, b + 1), (f + sz b / 2, b + 1)] by simp [halvesL, e]] at hp
        have s2 : 2 ≤ sz b := by
          obtain ⟨k, rfl⟩ := Int.eq_ofNat_of_zero_le h0
          have := sz_step k (by omega); have := sz_pos ((k + 1 : Nat) : Int); omega
        have p1 := hp (f, b + 1) (by simp)
        have p2 := hp (f + sz b / 2, b + 1) (by simp)
        have q1 : decide (f < f) = false := by simp
        have q2 : decide (f < f + sz b / 2) = true := by simp; omega
        simp only [q1, q2] at p1 p2
        cases up <;> simp at p1 p2
    subst e8
    clear hF hFb
    have hF := hFW
    have o := hF.own; simp only [World.size_alloc, World.size_drew, World.size_setCell, List.mem_cons, List.not_mem_nil, or_false, forall_eq_or_imp, forall_eq, At, and_true, Nat.zero_add, Nat.reduceAdd, List.set_cons_zero, List.set_cons_succ] at o
    gi_wp2
    have hK1 := (((KeepsOthers.setCell W ⟨w.heap.size + 1 + 1, 0, none⟩ (.int .i64 0)).trans (KeepsOthers.setCell _ ⟨w.heap.size + 1 + 1, 1, none⟩ (.int .i64 0))).trans (KeepsOthers.setCell _ ⟨w.heap.size + 1 + 1 + 1, 0, none⟩ (.bool false))).same D _ hK rfl
    refine ⟨by simp, .inl ⟨_, _, rfl, run_takeDeferred hK1, ?_⟩⟩
    have g1 : Fb w W ((w.heap.size + 1 + 1, [.int .i64 0, .int .i64 0]) :: [(w.heap.size + 1 + 1 + 1, [.bool false]), (w.heap.size + 1, [.bool up]), (w.heap.size, [.int .i64 f, .int .i64 8])]) := hF.sub (by simp)
    have g2 := (g1.set 0 (.int .i64 0) (by simp) (by simp; omega)).set 1 (.int .i64 0) (by simp) (by simp; omega)
    have g3 : Fb w _ ((w.heap.size + 1 + 1 + 1, [.bool false]) :: [(w.heap.size + 1 + 1, [.int .i64 0, .int .i64 0]), (w.heap.size + 1, [.bool up]), (w.heap.size, [.int .i64 f, .int .i64 8])]) := g2.sub (by simp)
    have g4 := g3.set 0 (.bool false) (by simp) (by simp; omega)
    have g5 := g4.belowB ((Below.refl (W1.heap.size + 1) _).grown (grownBy_putObj' _ D (.deferred none)) (by simp; omega) (fun k e => by cases e; simpa using hD)) (by omega) (by simp; omega)
    have o5 := g5.own
    simp only [List.mem_cons, List.not_mem_nil, or_false, forall_eq_or_imp, forall_eq, At, and_true, Nat.zero_add, Nat.reduceAdd, List.set_cons_zero, List.set_cons_succ] at o5
    have e8 : hlfV f 8 up = .tuple #[.agg #[.int .i64 0, .int .i64 0], .bool false] := by simp [hlfV, YtiocomefkckbfaaDoor.hF, YtiocomefkckbfaaDoor.hB, Hlf]
    exact ⟨.tuple #[.agg #[.int .i64 0, .int .i64 0], .bool false], by simp [results, Tryd.results21, go_sem, o5], by rw [e8], g5.kp⟩
  case stop =>
    rintro D c pre W hD hpre ⟨rfl, ⟨x1, x2⟩, hx, he, hFW, hB⟩ hK
    clear hF hFb
    have hF := hFW
    have o := hF.own; simp only [World.size_alloc, World.size_drew, World.size_setCell, List.mem_cons, List.not_mem_nil, or_false, forall_eq_or_imp, forall_eq, At, and_true, Nat.zero_add, Nat.reduceAdd, List.set_cons_zero, List.set_cons_succ] at o
    gi_wp2
    refine ⟨by simp, .inl ⟨_, _, rfl, run_takeDeferred hK, ?_⟩⟩
    have g5 := hF.belowB ((Below.refl (W1.heap.size + 1) _).grown (grownBy_putObj' _ D (.deferred none)) (by omega) (fun k e => by cases e; simpa using hD)) (by omega) (by simp; omega)
    have o5 := g5.own
    simp only [List.mem_cons, List.not_mem_nil, or_false, forall_eq_or_imp, forall_eq, At, and_true, Nat.zero_add, Nat.reduceAdd, List.set_cons_zero, List.set_cons_succ] at o5
    have ev : hlfV f b up = .tuple #[.agg #[.int .i64 x1, .int .i64 x2], .bool true] := by
      have hx' := hpre.subset hx
      have hb : b ≠ 8 := by rintro rfl; simp [halvesL] at hx'
      have hs : sz b / 2 = sz (b + 1) := by
        obtain ⟨k, rfl⟩ := Int.eq_ofNat_of_zero_le h0
        have := sz_step k (by omega); simpa using this
      have hH : Hlf f b := ⟨h, hb⟩
      rw [show halvesL f b = [(f, b + 1), (f + sz b / 2, b + 1)] by simp [halvesL, hb]] at hx'
      have hp1 := sz_pos (b + 1)
      rcases List.mem_cons.1 hx' with e | hx'
      · injection e with e1 e2; subst e1; subst e2
        have : up = false := by rw [← he]; simp
        subst this
        simp [hlfV, YtiocomefkckbfaaDoor.hF, YtiocomefkckbfaaDoor.hB, hH]
      · have e := List.mem_singleton.1 hx'
        injection e with e1 e2; subst e1; subst e2
        have : up = true := by rw [← he]; simp; omega
        subst this
        simp [hlfV, YtiocomefkckbfaaDoor.hF, YtiocomefkckbfaaDoor.hB, hH, hs]
    exact ⟨.tuple #[.agg #[.int .i64 x1, .int .i64 x2], .bool true], by simp [results, Tryd.results21, go_sem, o5], by rw [ev], g5.kp⟩
set_option maxHeartbeats 1000000 in
theorem iRangeHalf_any (f b : Int) (up : Bool) (w : World) :
    Calls Tryd.prog 21 #[.agg #[.int .i64 f, .int .i64 b], .bool up] w fun e w' => e = .returned (hlfV f b up) ∧ Below w.heap.size w w' := by
  by_cases h : ROk f b
  · exact iRangeHalf_ok f b up w h
  · have hd : decide (ROk f b) = false := by simp [h]
    have e : hlfV f b up = .tuple #[.agg #[.int .i64 0, .int .i64 0], .bool false] := by simp [hlfV, YtiocomefkckbfaaDoor.hF, YtiocomefkckbfaaDoor.hB, Hlf, h]
    rw [e]; clear e
    have hF := ((((Fb.start w).alloc [.int .i64 f, .int .i64 b] 25).alloc [.bool up] 4).alloc [.int .i64 0, .int .i64 0] 25).alloc [.bool false] 4
    simp only [World.size_alloc] at hF
    go_enter Tryd.func21, Tryd.ntmps21
    go_wp2_with fail
    refine (iRangeOk_any f b _).mono ?_; rintro e w1 ⟨rfl, hb⟩
    replace hF := hF.below hb
    clear hb
    have o := hF.own; simp only [World.size_alloc, World.size_drew, World.size_setCell, List.mem_cons, List.not_mem_nil, or_false, forall_eq_or_imp, forall_eq, At, and_true, Nat.zero_add, Nat.reduceAdd, List.set_cons_zero, List.set_cons_succ] at o
    go_wp2
    have g1 : Fb w w1 ((w.heap.size + 1 + 1, [.int .i64 0, .int .i64 0]) :: [(w.heap.size + 1 + 1 + 1, [.bool false]), (w.heap.size + 1, [.bool up]), (w.heap.size, [.int .i64 f, .int .i64 b])]) := hF.sub (by simp)
    have g2 := (g1.set 0 (.int .i64 0) (by simp) (by simp; omega)).set 1 (.int .i64 0) (by simp) (by simp; omega)
    have g3 : Fb w _ ((w.heap.size + 1 + 1 + 1, [.bool false]) :: [(w.heap.size + 1 + 1, [.int .i64 0, .int .i64 0]), (w.heap.size + 1, [.bool up]), (w.heap.size, [.int .i64 f, .int .i64 b])]) := g2.sub (by simp)
    have g4 := g3.set 0 (.bool false) (by simp) (by simp; omega)
    have o5 := g4.own
    simp only [List.mem_cons, List.not_mem_nil, or_false, forall_eq_or_imp, forall_eq, At, and_true, Nat.zero_add, Nat.reduceAdd, List.set_cons_zero, List.set_cons_succ] at o5
    exact bodyPost_ret (v := .tuple #[.agg #[.int .i64 0, .int .i64 0], .bool false]) (by simp [results, Tryd.results21, go_sem, o5]) rfl ⟨rfl, g4.kp⟩
theorem iRangeHalf_lit (f b : Int) (up : Bool) (w : World) :
    Calls Tryd.prog 21 #[.agg #[.int .i64 f, .int .i64 b], .bool up] w fun e w' => e = .returned (.tuple #[.agg #[.int .i64 (hF f b up), .int .i64 (hB f b)], .bool (decide (Hlf f b))]) ∧ Below w.heap.size w w' := iRangeHalf_any f b up w
end Go.Proofs.YtiocomefkckbfaaDoor
