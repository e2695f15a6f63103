/- The law on letters, behind impl.DeltaCut: alone. spec.DeltaCut: letters under way. -/
import Derived.Test.YtjkfnjjkjhggfaaZ20
import Derived.Test.YtjkfnjjkjhggfaaZ19
set_option linter.unusedSimpArgs false
set_option linter.unusedVariables false
namespace Go.Proofs.Ytjkfnjjkjhggfaa
open Go.RowKit

theorem own_apart {α β : Type} {E E' : TypeId} {w : World} {B B' sz sz' : Nat} {v v' : Value} {enc : α → List Value} {enc' : β → List Value} {L : List α} {L' : List β} (h : Own E w B v sz enc L) (h' : Own E' w B' v' sz' enc' L') (hE : E ≠ E') : Apart v v' := by
  intro g h1 h2
  obtain ⟨_, ⟨rfl, _⟩ | ⟨g1, cap, cur, rfl, _, hc, _⟩⟩ := h
  · cases h1
  · obtain ⟨_, ⟨rfl, _⟩ | ⟨g2, cap', cur', rfl, _, hc', _⟩⟩ := h'
    · cases h2
    · cases h1; cases h2; rw [hc] at hc'; cases hc'; exact hE rfl
noncomputable def bodyC : Code := Try.f5.body.getD .skip
noncomputable def codeS : Code := match bodyC with | .seq _ (.seq _ (.seq _ (.seq _ y))) => y | _ => .skip
/-- What spec.DeltaCut answers. -/
def SpecCut (s1 s2 : Value) (D : List Rg) (L : List Rt) (w : World) : Prop := ∀ w', Below w.heap.size w w' → Calls Try.prog 18 #[.agg #[s1, s2]] w' fun e w2 => ∃ v, e = .returned v ∧ Lts w2 v (pcs D L) ∧ Below w'.heap.size w' w2
theorem RdsL.one {w : World} {rds : List RtD} {L : List Rt} (h : RdsL w rds L) : ∀ x ∈ rds, ∀ u ∈ encRt x, u.oneCell' = true := fun x hx u hu => by
  obtain ⟨k, hk, rfl⟩ := List.mem_iff_getElem.1 hx
  obtain ⟨t, ht⟩ := get_lt (L := L) (k := k) (by rw [← h.1]; exact hk)
  obtain ⟨r, a, b⟩ := h.2 k t ht
  rw [List.getElem?_eq_getElem hk] at a
  injection a with a
  subst a
  exact shRt.one b u hu
set_option maxRecDepth 100000 in
set_option maxHeartbeats 8000000 in
theorem suffix_wp {x0 x1 x2 x5 x6 x7 x8 x9 x10 x11 x12 x13 x14 x15 x16 x17 x18 x19 x20 x21 x22 x23 x24 x25 x26 x27 x28 x29 x30 x31 x32 x33 x34 x35 x36 x37 x38 x39 x40 x41 x42 x43 x44 x45 x46 x47 x48 x49 x50 x51 x52 x53 x54 x55 x56 x57 x58 x59 x60 x61 x62 x63 x64 x65 x66 x67 x68 x69 x70 x71 x72 x73 x74 x75 x76 x77 x78 x79 x80 x81 x82 x83 x84 x85 x86 x87 x88 x89 x90 x91 x92 x93 x94 x95 x96 : Value} {g n cl c1 c2 : Nat} {al b1 b2 : Option Addr} {D : List Rg} {L : List Rt} {w : World} (hd0 : w.cell? ⟨g, 0, none⟩ = some (.slice b1 D.length c1)) (hd1 : w.cell? ⟨g, 1, none⟩ = some (.slice b2 L.length c2))
    (hs1 : Rows w (.slice b1 D.length c1) 2 encRg D) (hs2 : Rts w (.slice b2 L.length c2) L) (hl : Lts w (.slice al n cl) (pcs D L)) (hN : D.length + L.length ≤ 1000) (hspec : SpecCut (.slice b1 D.length c1) (.slice b2 L.length c2) D L w) :
    codeS.wp Try.prog (bodyPost Try.prog Try.f5 fun e w' => ∃ v, e = .returned v ∧ v = .bool true ∧ Below w.heap.size w w') { tmps := #[x0, x1, x2, .pointer (some ⟨g, 0, none⟩), .slice al n cl, x5, x6, x7, x8, x9, x10, x11, x12, x13, x14, x15, x16, x17, x18, x19, x20, x21, x22, x23, x24, x25, x26, x27, x28, x29, x30, x31, x32, x33, x34, x35, x36, x37, x38, x39, x40, x41, x42, x43, x44, x45, x46, x47, x48, x49, x50, x51, x52, x53, x54, x55, x56, x57, x58, x59, x60, x61, x62, x63, x64, x65, x66, x67, x68, x69, x70, x71, x72, x73, x74, x75, x76, x77, x78, x79, x80, x81, x82, x83, x84, x85, x86, x87, x88, x89, x90, x91, x92, x93, x94, x95, x96], defers := [] } w := by
  have HS := Lib.hid (And.intro hs1 hs2)
  have HL := Lib.hid hl
  have HP := Lib.hid hspec
  obtain ⟨N1, hN1⟩ : ∃ N1, Hid (D.length = N1) := ⟨_, rfl⟩
  obtain ⟨N2, hN2⟩ : ∃ N2, Hid (L.length = N2) := ⟨_, rfl⟩
  rw [hN1.out, hN2.out] at hN
  rw [hN1.out] at hd0
  rw [hN2.out] at hd1
  obtain ⟨al', n', cl', e, hn, -, -⟩ := GLs.sl hl
  injection e with e1 e2 e3
  subst e1; subst e2; subst e3
  have hnn : n = (N1 + N2 + 2) / 3 := by rw [← hn.out, pcs_len, hN1.out, hN2.out]
  have hn1 : n ≤ 400 := by omega
  have HNN := Lib.hid hnn
  clear hs1 hs2 hl hspec hnn
  have e : codeS = codeS := rfl
  conv at e => rhs; simp only [codeS, bodyC, Try.f5, Option.getD_some]
  rw [e]
  clear e
  go_wp2_with fail
  refine (by have := HP.out w (Below.refl _ _); rw [hN1.out, hN2.out] at this; exact this : Calls Try.prog 18 #[.agg #[.slice b1 N1 c1, .slice b2 N2 c2]] w fun e w2 => ∃ v, e = .returned v ∧ Lts w2 v (pcs D L) ∧ Below w.heap.size w w2).mono ?_
  rintro e w1 ⟨vm, rfl, hM, hb1⟩
  obtain ⟨am, m, cm, rfl, hm, -, -⟩ := GLs.sl hM
  obtain rfl : m = n := by rw [← hm.out, hn.out]
  have HM := Lib.hid hM
  have HB1 := Lib.hid hb1
  clear hM
  have hF := ((Fb.start w1).other (.cells #[] 62)).other (.cells #[] 64)
  have hD : Own 62 ((w1.alloc (.cells #[] 62)).alloc (.cells #[] 64)) w1.heap.size (.slice (some ⟨w1.heap.size, 0, none⟩) 0 0) 2 encRg (seg D 0 (0 * 3)) := (Own.made (enc := encRg) (sz := 2) 62 w1 w1.heap.size (Nat.le_refl _)).alloc _
  have hT : Own 64 ((w1.alloc (.cells #[] 62)).alloc (.cells #[] 64)) w1.heap.size (.slice (some ⟨w1.heap.size + 1, 0, none⟩) 0 0) 5 encRt [] := by
    have := Own.made (enc := encRt) (sz := 5) 64 (w1.alloc (.cells #[] 62)) w1.heap.size (by simp)
    rwa [World.size_alloc] at this
  clear hb1
  go_wp2_with fail
  go_loopw [6, 7, 8] (fun s6 s7 s8 wr => ∃ (i : Nat) (rds : List RtD), s8 = .int .i64 (i : Int) ∧ i ≤ m ∧ Own 62 wr w1.heap.size s6 2 encRg (seg D 0 (i * 3)) ∧ Own 64 wr w1.heap.size s7 5 encRt rds ∧ Hid (RdsL w1 rds (seg L 0 (i * 3 - D.length))) ∧ Fb w1 wr []) (fun _ _ s8 _ => m - (intOf s8).toNat)
  case atStart => exact ⟨0, [], rfl, Nat.zero_le _, hD, hT, ⟨by simp [seg], fun k t h => by simp [seg] at h⟩, hF⟩
  case round =>
    clear hF hD hT
    obtain ⟨i, rds, rfl, hi, hD, hT, hR, hF⟩ := hrel
    have hsz := hF.kp.size
    obtain ⟨a6, c6, rfl⟩ := hD.sl
    obtain ⟨a7, c7, rfl⟩ := hT.sl
    obtain ⟨nd, hnd⟩ : ∃ nd, Hid ((seg D 0 (i * 3)).length = nd) := ⟨_, rfl⟩
    obtain ⟨nt, hnt⟩ : ∃ nt, Hid (rds.length = nt) := ⟨_, rfl⟩
    have hnd1 : nd ≤ 1000 := by have := hnd.out; rw [seg_len] at this; have := hN1.out; omega
    have hnt0 : nt ≤ 1000 ∧ (i * 3 < N1 → nt = 0) := by
      have h1 := hR.out.1
      rw [hnt.out, seg_len] at h1
      have := hN1.out; have := hN2.out; omega
    obtain ⟨hnt1, hnt2⟩ := hnt0
    rw [hnd.out] at hD ⊢
    rw [hnt.out] at hT ⊢
    by_cases hlt : i < m
    · obtain ⟨bl, pl, rfl⟩ := GLs.adr HL.out (by omega)
      obtain ⟨bm, pm, rfl⟩ := GLs.adr HM.out (by omega)
      have hat := pcs_at D L (i := i) (by rw [← pcs_len, hm.out]; exact hlt)
      have hcl := cut_len D L (i * 3) (i * 3 + 3)
      obtain ⟨⟨Di, Li⟩, hDL⟩ : ∃ x, cut D L (i * 3) (i * 3 + 3) = x := ⟨_, rfl⟩
      have hDi : Di = seg D (i * 3) (i * 3 + 3) := by rw [show Di = (cut D L (i * 3) (i * 3 + 3)).1 by rw [hDL]]; rfl
      have hLi : Li = seg L (i * 3 - D.length) (i * 3 + 3 - D.length) := by rw [show Li = (cut D L (i * 3) (i * 3 + 3)).2 by rw [hDL]]; rfl
      rw [hDL] at hat hcl
      dsimp only at hcl
      rw [hN1.out, hN2.out] at hcl
      obtain ⟨u1, k1, u2, k2, rd1, e0, e1, i1, i2, i3⟩ := Lts.at HL.out hat
      obtain ⟨u3, k3, u4, k4, rd2, g0, g1, j1, j2, j3⟩ := Lts.at HM.out hat
      have hp : Di.length = min (i * 3 + 3) N1 - i * 3 := by rw [hDi, seg_len, hN1.out]
      obtain ⟨p, hpD⟩ : ∃ p, Hid (Di.length = p) := ⟨_, rfl⟩
      obtain ⟨q, hqL⟩ : ∃ q, Hid (Li.length = q) := ⟨_, rfl⟩
      have HE := Lib.hid (And.intro hDi hLi)
      have hmm := HNN.out
      rw [hpD.out, hqL.out] at hcl
      rw [hpD.out] at hp
      rw [hpD.out] at e0 i1 g0 j1
      rw [hqL.out] at e1 i2 g1 j2
      have f1 : p + q ≤ 3 := by omega
      have f2 : 0 < p + q := by omega
      have f3 : i + 1 < m → p + q = 3 := by intro h; omega
      have f4 : 0 < p → nt = 0 := by intro h; exact hnt2 (by omega)
      clear hat hcl hDL hDi hLi hp hmm hnt2
      have I := Lib.hid (And.intro (And.intro i1 i2) (And.intro j1 j2))
      have I3 := Lib.hid (And.intro i3 j3)
      clear i1 i2 i3 j1 j2 j3
      have LC := Lib.hid (And.intro ((HB1.out.cell (World.block_lt_of_cell? _ _ e0)).trans e0) ((HB1.out.cell (World.block_lt_of_cell? _ _ e1)).trans e1))
      have MC := Lib.hid (And.intro g0 g1)
      have l0 := hF.old LC.out.1
      have l1 := hF.old LC.out.2
      clear e0 e1 g0 g1
      go_wp2_with fail
      refine (iDeltaMany_any u1 u2 p k1 q k2 _ (by omega)).mono ?_; rintro e w3 ⟨rfl, hb3⟩
      replace hF := hF.below hb3
      replace hD := hD.below hb3
      replace hT := hT.below hb3
      have hz3 := hb3.size
      clear hb3 l0 l1
      obtain ⟨N, hNv⟩ : ∃ N : Int, ((p + q : Nat) : Int) = N := ⟨_, rfl⟩
      rw [hNv]
      have dN3 : decide (3 < N) = false := decide_eq_false (by omega)
      have dN0 : (N == 0) = false := by rw [beq_eq_false_iff_ne]; omega
      have hwi : IntKind.i64.wrap ((i : Int) + 1) = (i : Int) + 1 := IntWalk.i64_in _ (by omega)
      have x0 := fun z : Cl w3.heap.size w3 => Cl.old hF z LC.out.1
      have x1 := fun z : Cl w3.heap.size w3 => Cl.old hF z LC.out.2
      have y0 := fun z : Cl w3.heap.size w3 => Cl.old hF z MC.out.1
      have y1 := fun z : Cl w3.heap.size w3 => Cl.old hF z MC.out.2
      have cC := Lib.hid (fun z : Cl w3.heap.size w3 => (show Calls Try.prog 19 #[.agg #[.slice u1 p k1, .slice u2 q k2], .agg #[.slice u3 p k3, .slice u4 q k4]] z.W fun e w' => e = .returned (.bool true) ∧ Below z.W.heap.size z.W w' from
        have hbz := (hF.cl z).kp
        have hbw := HB1.out.trans (hbz.mono HB1.out.size)
        lyDelta_same _ _ _ _ Di Li z.W (I.out.1.1.below hbw) (I.out.2.1.below hbz) ((I3.out.1.below hbw).rts (I.out.1.2.below hbw)) ((I3.out.2.below hbz).rts (I.out.2.2.below hbz))))
      by_cases him : i + 1 < m
      · have hl3 : decide ((i : Int) + 1 < (m : Int)) = true := decide_eq_true (by omega)
        have dNn : (N != 3) = false := by simp; omega
        clear hNv
        go_wp2
        first | refine wp_region_new (by kernel_rfl) (by kernel_rfl) ?_ | refine wp_region_lex ?_
        repeat (any_goals (first | go_big_quiet_step (((go_at_call 19; exact Calls.cl (cC.out _)))) | (refine wpQuiet_step (fun K hK => ?_); go_simp; split <;> (rename_i hg; refine hK _ ?_; clear hK K; simp only [hg, decide_true, decide_false]))))
        all_goals (refine wpQuiet_nil ?_; intro x)
        obtain ⟨wq, hbq⟩ := x
        replace hF := hF.below hbq
        replace hD := hD.below hbq
        replace hT := hT.below hbq
        have hzq := hbq.size
        dsimp only
        clear hbq x0 x1 y0 y1 cC
        have l0 := hF.old LC.out.1
        have l1 := hF.old LC.out.2
        by_cases hp0 : 0 < p
        · have dp : decide (0 < (p : Int)) = true := decide_eq_true (by omega)
          have hnt00 := f4 hp0
          subst hnt00
          have tok1 : True := trivial
          go_wp2_with (first | (at_builtin; clear tok1; have hKD := I.out.1.1.below (HB1.out.trans (hF.kp.mono HB1.out.size)); have hAp := own_apart hT hD (by decide); refine wpList_appsZ rfl _ _ 29 rfl 62 (.agg #[.int .i64 0, .int .i64 0]) 2 16 Try.underlying29 infoRg rfl (by decide) (by decide) w1.heap.size encRg (fun _ => rfl) _ (seg D 0 (i * 3)) rfl hD (.slice u1 p k1) Di (fun _ _ u hu => by simp [encRg] at hu; rcases hu with rfl | rfl <;> rfl) rfl hKD (by rw [hnd.out, hpD.out]; omega) hF.kp.size ?_; intro v' wx hO1 hg1 hb1 hf1; replace hT := hT.grown hg1 hAp; replace hD := hO1; replace hF := hF.belowB hb1 (Nat.le_refl _) (by simp); clear hO1 hg1 hb1 hf1 hKD hAp l0 l1; have l0 := hF.old LC.out.1; have l1 := hF.old LC.out.2) | (at_builtin; have hKT := I.out.1.2.below (HB1.out.trans (hF.kp.mono HB1.out.size)); have hAp := own_apart hD hT (by decide); refine wpList_appsZ rfl _ _ 30 rfl 64 (.agg #[.int .i64 0, .int .i64 0, .slice none 0 0, .int .i64 0, .slice none 0 0]) 5 72 Try.underlying30 infoRt rfl (by decide) (by decide) w1.heap.size encRt (fun _ => rfl) _ rds rfl hT (.slice u2 q k2) rd1 I3.out.1.one rfl hKT (by rw [hnt.out, I3.out.1.1, hqL.out]; omega) hF.kp.size ?_; intro v' wx hO1 hg1 hb1 hf1; replace hD := hD.grown hg1 hAp; replace hT := hO1; replace hF := hF.belowB hb1 (Nat.le_refl _) (by simp); clear hO1 hg1 hb1 hf1 hKT hAp))
          go_roundw
          case rel => exact ⟨i + 1, rds ++ rd1, by go_num, by omega, by rw [show (i + 1) * 3 = i * 3 + 3 by omega, ← seg_app D (Nat.zero_le (i * 3)) (by omega : i * 3 ≤ i * 3 + 3), ← HE.out.1]; exact hD, hT, (by rw [show (i + 1) * 3 = i * 3 + 3 by omega, ← seg_app L (Nat.zero_le (i * 3 - D.length)) (by omega : i * 3 - D.length ≤ i * 3 + 3 - D.length), ← HE.out.2]; exact hR.out.app (I3.out.1.below HB1.out)), hF⟩
          case measure => simp [intOf]; omega
        · have dp : decide (0 < (p : Int)) = false := decide_eq_false (by omega)
          have tok1 : True := trivial
          go_wp2_with (first | (at_builtin; clear tok1; have hKD := I.out.1.1.below (HB1.out.trans (hF.kp.mono HB1.out.size)); have hAp := own_apart hT hD (by decide); refine wpList_appsZ rfl _ _ 29 rfl 62 (.agg #[.int .i64 0, .int .i64 0]) 2 16 Try.underlying29 infoRg rfl (by decide) (by decide) w1.heap.size encRg (fun _ => rfl) _ (seg D 0 (i * 3)) rfl hD (.slice u1 p k1) Di (fun _ _ u hu => by simp [encRg] at hu; rcases hu with rfl | rfl <;> rfl) rfl hKD (by rw [hnd.out, hpD.out]; omega) hF.kp.size ?_; intro v' wx hO1 hg1 hb1 hf1; replace hT := hT.grown hg1 hAp; replace hD := hO1; replace hF := hF.belowB hb1 (Nat.le_refl _) (by simp); clear hO1 hg1 hb1 hf1 hKD hAp l0 l1; have l0 := hF.old LC.out.1; have l1 := hF.old LC.out.2) | (at_builtin; have hKT := I.out.1.2.below (HB1.out.trans (hF.kp.mono HB1.out.size)); have hAp := own_apart hD hT (by decide); refine wpList_appsZ rfl _ _ 30 rfl 64 (.agg #[.int .i64 0, .int .i64 0, .slice none 0 0, .int .i64 0, .slice none 0 0]) 5 72 Try.underlying30 infoRt rfl (by decide) (by decide) w1.heap.size encRt (fun _ => rfl) _ rds rfl hT (.slice u2 q k2) rd1 I3.out.1.one rfl hKT (by rw [hnt.out, I3.out.1.1, hqL.out]; omega) hF.kp.size ?_; intro v' wx hO1 hg1 hb1 hf1; replace hD := hD.grown hg1 hAp; replace hT := hO1; replace hF := hF.belowB hb1 (Nat.le_refl _) (by simp); clear hO1 hg1 hb1 hf1 hKT hAp))
          go_roundw
          case rel => exact ⟨i + 1, rds ++ rd1, by go_num, by omega, by rw [show (i + 1) * 3 = i * 3 + 3 by omega, ← seg_app D (Nat.zero_le (i * 3)) (by omega : i * 3 ≤ i * 3 + 3), ← HE.out.1]; exact hD, hT, (by rw [show (i + 1) * 3 = i * 3 + 3 by omega, ← seg_app L (Nat.zero_le (i * 3 - D.length)) (by omega : i * 3 - D.length ≤ i * 3 + 3 - D.length), ← HE.out.2]; exact hR.out.app (I3.out.1.below HB1.out)), hF⟩
          case measure => simp [intOf]; omega
      · have hl3 : decide ((i : Int) + 1 < (m : Int)) = false := decide_eq_false (by omega)
        clear hNv
        go_wp2
        first | refine wp_region_new (by kernel_rfl) (by kernel_rfl) ?_ | refine wp_region_lex ?_
        repeat (any_goals (first | go_big_quiet_step (((go_at_call 19; exact Calls.cl (cC.out _)))) | (refine wpQuiet_step (fun K hK => ?_); go_simp; split <;> (rename_i hg; refine hK _ ?_; clear hK K; simp only [hg, decide_true, decide_false]))))
        all_goals (refine wpQuiet_nil ?_; intro x)
        obtain ⟨wq, hbq⟩ := x
        replace hF := hF.below hbq
        replace hD := hD.below hbq
        replace hT := hT.below hbq
        have hzq := hbq.size
        dsimp only
        clear hbq x0 x1 y0 y1 cC
        have l0 := hF.old LC.out.1
        have l1 := hF.old LC.out.2
        by_cases hp0 : 0 < p
        · have dp : decide (0 < (p : Int)) = true := decide_eq_true (by omega)
          have hnt00 := f4 hp0
          subst hnt00
          have tok1 : True := trivial
          go_wp2_with (first | (at_builtin; clear tok1; have hKD := I.out.1.1.below (HB1.out.trans (hF.kp.mono HB1.out.size)); have hAp := own_apart hT hD (by decide); refine wpList_appsZ rfl _ _ 29 rfl 62 (.agg #[.int .i64 0, .int .i64 0]) 2 16 Try.underlying29 infoRg rfl (by decide) (by decide) w1.heap.size encRg (fun _ => rfl) _ (seg D 0 (i * 3)) rfl hD (.slice u1 p k1) Di (fun _ _ u hu => by simp [encRg] at hu; rcases hu with rfl | rfl <;> rfl) rfl hKD (by rw [hnd.out, hpD.out]; omega) hF.kp.size ?_; intro v' wx hO1 hg1 hb1 hf1; replace hT := hT.grown hg1 hAp; replace hD := hO1; replace hF := hF.belowB hb1 (Nat.le_refl _) (by simp); clear hO1 hg1 hb1 hf1 hKD hAp l0 l1; have l0 := hF.old LC.out.1; have l1 := hF.old LC.out.2) | (at_builtin; have hKT := I.out.1.2.below (HB1.out.trans (hF.kp.mono HB1.out.size)); have hAp := own_apart hD hT (by decide); refine wpList_appsZ rfl _ _ 30 rfl 64 (.agg #[.int .i64 0, .int .i64 0, .slice none 0 0, .int .i64 0, .slice none 0 0]) 5 72 Try.underlying30 infoRt rfl (by decide) (by decide) w1.heap.size encRt (fun _ => rfl) _ rds rfl hT (.slice u2 q k2) rd1 I3.out.1.one rfl hKT (by rw [hnt.out, I3.out.1.1, hqL.out]; omega) hF.kp.size ?_; intro v' wx hO1 hg1 hb1 hf1; replace hD := hD.grown hg1 hAp; replace hT := hO1; replace hF := hF.belowB hb1 (Nat.le_refl _) (by simp); clear hO1 hg1 hb1 hf1 hKT hAp))
          go_roundw
          case rel => exact ⟨i + 1, rds ++ rd1, by go_num, by omega, by rw [show (i + 1) * 3 = i * 3 + 3 by omega, ← seg_app D (Nat.zero_le (i * 3)) (by omega : i * 3 ≤ i * 3 + 3), ← HE.out.1]; exact hD, hT, (by rw [show (i + 1) * 3 = i * 3 + 3 by omega, ← seg_app L (Nat.zero_le (i * 3 - D.length)) (by omega : i * 3 - D.length ≤ i * 3 + 3 - D.length), ← HE.out.2]; exact hR.out.app (I3.out.1.below HB1.out)), hF⟩
          case measure => simp [intOf]; omega
        · have dp : decide (0 < (p : Int)) = false := decide_eq_false (by omega)
          have tok1 : True := trivial
          go_wp2_with (first | (at_builtin; clear tok1; have hKD := I.out.1.1.below (HB1.out.trans (hF.kp.mono HB1.out.size)); have hAp := own_apart hT hD (by decide); refine wpList_appsZ rfl _ _ 29 rfl 62 (.agg #[.int .i64 0, .int .i64 0]) 2 16 Try.underlying29 infoRg rfl (by decide) (by decide) w1.heap.size encRg (fun _ => rfl) _ (seg D 0 (i * 3)) rfl hD (.slice u1 p k1) Di (fun _ _ u hu => by simp [encRg] at hu; rcases hu with rfl | rfl <;> rfl) rfl hKD (by rw [hnd.out, hpD.out]; omega) hF.kp.size ?_; intro v' wx hO1 hg1 hb1 hf1; replace hT := hT.grown hg1 hAp; replace hD := hO1; replace hF := hF.belowB hb1 (Nat.le_refl _) (by simp); clear hO1 hg1 hb1 hf1 hKD hAp l0 l1; have l0 := hF.old LC.out.1; have l1 := hF.old LC.out.2) | (at_builtin; have hKT := I.out.1.2.below (HB1.out.trans (hF.kp.mono HB1.out.size)); have hAp := own_apart hD hT (by decide); refine wpList_appsZ rfl _ _ 30 rfl 64 (.agg #[.int .i64 0, .int .i64 0, .slice none 0 0, .int .i64 0, .slice none 0 0]) 5 72 Try.underlying30 infoRt rfl (by decide) (by decide) w1.heap.size encRt (fun _ => rfl) _ rds rfl hT (.slice u2 q k2) rd1 I3.out.1.one rfl hKT (by rw [hnt.out, I3.out.1.1, hqL.out]; omega) hF.kp.size ?_; intro v' wx hO1 hg1 hb1 hf1; replace hD := hD.grown hg1 hAp; replace hT := hO1; replace hF := hF.belowB hb1 (Nat.le_refl _) (by simp); clear hO1 hg1 hb1 hf1 hKT hAp))
          go_roundw
          case rel => exact ⟨i + 1, rds ++ rd1, by go_num, by omega, by rw [show (i + 1) * 3 = i * 3 + 3 by omega, ← seg_app D (Nat.zero_le (i * 3)) (by omega : i * 3 ≤ i * 3 + 3), ← HE.out.1]; exact hD, hT, (by rw [show (i + 1) * 3 = i * 3 + 3 by omega, ← seg_app L (Nat.zero_le (i * 3 - D.length)) (by omega : i * 3 - D.length ≤ i * 3 + 3 - D.length), ← HE.out.2]; exact hR.out.app (I3.out.1.below HB1.out)), hF⟩
          case measure => simp [intOf]; omega
    · have him : i = m := by omega
      have hle : decide ((i : Int) < (m : Int)) = false := decide_eq_false (by omega)
      have d0 := hF.old (HB1.out.cell (World.block_lt_of_cell? _ _ hd0) |>.trans hd0)
      have d1 := hF.old (HB1.out.cell (World.block_lt_of_cell? _ _ hd1) |>.trans hd1)
      have hmm := HNN.out
      have eD : seg D 0 (i * 3) = D := by unfold seg; rw [List.take_of_length_le (by have := hN1.out; omega)]; rfl
      have eL : seg L 0 (i * 3 - D.length) = L := by unfold seg; rw [List.take_of_length_le (by have := hN1.out; have := hN2.out; omega)]; rfl
      rw [eD] at hD hnd
      have hR2 := hR.out
      rw [eL] at hR2
      have enD : nd = N1 := by rw [← hnd.out, hN1.out]
      have enL : nt = N2 := by rw [← hnt.out, hR2.1, hN2.out]
      subst enD
      subst enL
      have cL : Calls Try.prog 19 #[.agg #[.slice a6 nd c6, .slice a7 nt c7], .agg #[.slice b1 nd c1, .slice b2 nt c2]] wr fun e w' => e = .returned (.bool true) ∧ Below wr.heap.size wr w' := by
        have h1 := HS.out.1.below (HB1.out.trans (hF.kp.mono HB1.out.size))
        have h2 := HS.out.2.below (HB1.out.trans (hF.kp.mono HB1.out.size))
        rw [hN1.out] at h1
        rw [hN2.out] at h2
        exact lyDelta_same _ _ _ _ D L wr (hD.rows (fun _ => rfl)) h1 ((hR2.below hF.kp).rts (hT.rows (fun _ => rfl))) h2
      clear hmm eD eL hR2 him hnt2 hi
      go_wp2_with fail
      refine cL.mono ?_; rintro e w9 ⟨rfl, hb9⟩
      go_wp2_with fail
      go_ret
      exact ⟨_, rfl, rfl, HB1.out.trans ((hF.below hb9).kp.mono HB1.out.size)⟩
end Go.Proofs.Ytjkfnjjkjhggfaa
set_option linter.unusedSimpArgs false
set_option linter.unusedVariables false
namespace Go.Proofs.Ytjkfnjjkjhggfaa
open Go.RowKit

theorem setL (x : Value) (j : Nat) (hj : j < 2) : ∀ (T : List LtD) (k : Nat) (d e : LtD), T[k]? = some d → encLt e = (encLt d).set j x → (T.flatMap encLt).set (k * 2 + j) x = (T.set k e).flatMap encLt
  | [], k, d, e, h, _ => by simp at h
  | y :: T, 0, d, e, h, he => by
    simp at h; subst h
    rw [List.set_cons_zero, List.flatMap_cons, List.flatMap_cons, he]
    match j, hj with
    | 0, _ => rfl
    | 1, _ => rfl
  | y :: T, k + 1, d, e, h, he => by
    rw [List.set_cons_succ, List.flatMap_cons, List.flatMap_cons, ← setL x j hj T k d e (by simpa using h) he]
    show ([_, _] ++ T.flatMap encLt).set _ x = [_, _] ++ _
    simp only [List.cons_append, List.nil_append]
    rw [show (k + 1) * 2 + j = k * 2 + j + 1 + 1 by omega]
    simp only [List.set_cons_succ]
theorem Own.putL {E : TypeId} {w : World} {B g n c : Nat} {T : List LtD} (h : Own E w B (.slice (some ⟨g, 0, none⟩) n c) 2 encLt T) {k j : Nat} {d e : LtD} {x : Value} (hd : T[k]? = some d) (hj : j < 2) (he : encLt e = (encLt d).set j x) :
    Own E (w.setCell ⟨g, k * 2 + j, none⟩ x) B (.slice (some ⟨g, 0, none⟩) n c) 2 encLt (T.set k e) := by
  obtain ⟨h0, ⟨e1, _⟩ | ⟨g', cap, cur, e1, h2, h3, h4, h5, h6, h7⟩⟩ := h
  · cases e1
  · injection e1 with e1 e2 e3
    injection e1 with e1
    injection e1 with e1
    subst e1; subst e3; subst e2
    refine ⟨by rw [← setL x j hj T k d e hd he, List.length_set, List.length_set]; exact h0, .inr ⟨g, c, _, by rw [List.length_set], h2, heap_setCell_same w g (k * 2 + j) cur E x h3, by rw [List.length_set]; exact h4, h5, by simpa using h6, ?_⟩⟩
    simp only [Array.toList_setIfInBounds, List.length_set]
    rw [List.take_set, h7]
    exact setL x j hj T k d e hd he
section
variable {D : List Rg} {L : List Rt} {n1 m b0 b1 : Nat} {w w' : World} {v v' u u' t t' : Value} {ds : List LtD} {rds : List RtD} {Dc : List Rg} {Lc : List Rt}
/-- Whole letters. -/
structure OldC (D : List Rg) (L : List Rt) (n1 : Nat) (w : World) (v : Value) (ds : List LtD) (m : Nat) : Prop where
  out : Own 32 w n1 v 2 encLt ds
  len : ds.length = m
  old : ∀ j, j < m → ∃ d, ds[j]? = some d ∧ shLt.rd w d (cut D L (j * 3) (j * 3 + 3)) ∧ ∀ s ∈ shLt.subs d, (∀ g, s.ownBlock = some g → g < w.heap.size) ∧ Apart s v
/-- .. and one under way. -/
structure Mid (D : List Rg) (L : List Rt) (n1 : Nat) (w : World) (v : Value) (ds : List LtD) (m b0 b1 : Nat) (u t : Value) (rds : List RtD) (Dc : List Rg) (Lc : List Rt) : Prop where
  out : Own 32 w n1 v 2 encLt ds
  len : ds.length = m + 1
  lo : n1 ≤ b0 ∧ b0 ≤ b1 ∧ b1 ≤ w.heap.size
  blk : ∀ g, v.ownBlock = some g → g < b1
  old : ∀ j, j < m → ∃ d, ds[j]? = some d ∧ shLt.rd w d (cut D L (j * 3) (j * 3 + 3)) ∧ ∀ s ∈ shLt.subs d, (∀ g, s.ownBlock = some g → g < b0) ∧ Apart s v
  cu : Own 62 w b0 u 2 encRg Dc
  cv : Own 64 w b0 t 5 encRt rds
  ct : GRel shRt w b1 w.heap.size t rds Lc
theorem OldC.below (h : OldC D L n1 w v ds m) (K : Below w.heap.size w w') : OldC D L n1 w' v ds m := ⟨h.out.below K, h.len, fun j hj => by
  obtain ⟨d, a, b, c⟩ := h.old j hj
  exact ⟨d, a, Sh.below b K, fun s hs => ⟨fun g hg => Nat.lt_of_lt_of_le ((c s hs).1 g hg) K.size, (c s hs).2⟩⟩⟩
theorem Mid.below (h : Mid D L n1 w v ds m b0 b1 u t rds Dc Lc) (K : Below w.heap.size w w') : Mid D L n1 w' v ds m b0 b1 u t rds Dc Lc := ⟨h.out.below K, h.len, ⟨h.lo.1, h.lo.2.1, Nat.le_trans h.lo.2.2 K.size⟩, h.blk, fun j hj => by
  obtain ⟨d, a, b, c⟩ := h.old j hj
  exact ⟨d, a, Sh.below b K, c⟩, h.cu.below K, h.cv.below K, (h.ct.below K).mono (Nat.le_refl _) K.size⟩
theorem Mid.growU (h : Mid D L n1 w v ds m b0 b1 u t [] Dc []) (hg : w.grownBy w' u.ownBlock) {x : Rg} (hO : Own 62 w' b0 u' 2 encRg (Dc ++ [x])) : Mid D L n1 w' v ds m b0 b1 u' t [] (Dc ++ [x]) [] :=
  ⟨h.out.grown hg (own_apart h.out h.cu (by decide)), h.len, ⟨h.lo.1, h.lo.2.1, Nat.le_trans h.lo.2.2 hg.size⟩, h.blk, fun j hj => by
    obtain ⟨d, a, b, c⟩ := h.old j hj
    exact ⟨d, a, shLt.keep hg (fun s hs g hg' e => by have := (c s hs).1 g hg'; have := h.cu.ge g e; omega) b, c⟩, hO, h.cv.grown hg (own_apart h.cv h.cu (by decide)), rfl, fun k s hk => by simp at hk⟩
theorem Mid.growT (h : Mid D L n1 w v ds m b0 b1 u t rds Dc Lc) (hg : w.grownBy w' t.ownBlock) (hf : Frsh w t t') {r : RtD} {s : Rt} (hO : Own 64 w' b0 t' 5 encRt (rds ++ [r])) (hr : shRt.rd w r s) (hs : ∀ y ∈ shRt.subs r, Apart y t ∧ ∀ g, y.ownBlock = some g → b1 ≤ g ∧ g < w.heap.size) :
    Mid D L n1 w' v ds m b0 b1 u t' (rds ++ [r]) Dc (Lc ++ [s]) :=
  ⟨h.out.grown hg (own_apart h.out h.cv (by decide)), h.len, ⟨h.lo.1, h.lo.2.1, Nat.le_trans h.lo.2.2 hg.size⟩, h.blk, fun j hj => by
    obtain ⟨d, a, b, c⟩ := h.old j hj
    exact ⟨d, a, shLt.keep hg (fun s hs g hg' e => by have := (c s hs).1 g hg'; have := h.cv.ge g e; omega) b, c⟩, h.cu.grown hg (own_apart h.cu h.cv (by decide)), hO,
   GRel.snoc h.ct (Nat.le_refl _) (Below.refl _ _) hg hf hr hs⟩
theorem Mid.put {g n c j : Nat} {d e : LtD} {x : Value} (h : Mid D L n1 w (.slice (some ⟨g, 0, none⟩) n c) ds m b0 b1 u t rds Dc Lc) (hd : ds[m]? = some d) (hj : j < 2) (he : encLt e = (encLt d).set j x) :
    Mid D L n1 (w.setCell ⟨g, m * 2 + j, none⟩ x) (.slice (some ⟨g, 0, none⟩) n c) (ds.set m e) m b0 b1 u t rds Dc Lc := by
  have hu := own_apart h.cu h.out (by decide)
  have ht := own_apart h.cv h.out (by decide)
  have hb := h.blk g rfl
  refine ⟨h.out.putL hd hj he, by rw [List.length_set]; exact h.len, by simp only [World.size_setCell]; exact h.lo, h.blk, fun i hi => ?_, h.cu.put' (E' := 62) (p := ⟨g, m * 2 + j, none⟩) (fun e => hu g e rfl) x, h.cv.put' (E' := 62) (p := ⟨g, m * 2 + j, none⟩) (fun e => ht g e rfl) x, ?_⟩
  · obtain ⟨d', a, b, c'⟩ := h.old i hi
    exact ⟨d', by rw [List.getElem?_set_ne (by omega)]; exact a, shLt.keep (grown_setC w ⟨g, m * 2 + j, none⟩ x) (fun s hs g' hg' e => by injection e with e; subst e; exact (c' s hs).2 _ hg' rfl) b, c'⟩
  · simp only [World.size_setCell]
    exact h.ct.far (grown_setC w ⟨g, m * 2 + j, none⟩ x) (fun g' hb' _ e => by injection e with e; dsimp only at e; omega)
/-- A letter is whole. -/
theorem Mid.done (h : Mid D L n1 w v ds m b0 b1 u t rds Dc Lc) (hd : ds[m]? = some ⟨u, t, rds⟩) (hc : (Dc, Lc) = cut D L (m * 3) (m * 3 + 3)) : OldC D L n1 w v ds (m + 1) :=
  ⟨h.out, h.len, fun j hj => by
    by_cases hjm : j < m
    · obtain ⟨d, a, b, c⟩ := h.old j hjm
      exact ⟨d, a, b, fun s hs => ⟨fun g hg => by have := (c s hs).1 g hg; have := h.lo; omega, (c s hs).2⟩⟩
    · obtain rfl : j = m := by omega
      refine ⟨_, hd, ?_, fun s hs => ?_⟩
      · rw [← hc]
        exact ⟨h.cu.rows (fun _ => rfl), h.cv.rows (fun _ => rfl), h.ct.1, fun k s hk => by obtain ⟨r, a, b, _⟩ := h.ct.2 k s hk; exact ⟨r, a, b⟩⟩
      · simp only [shLt, List.mem_cons, List.mem_flatMap] at hs
        rcases hs with rfl | rfl | ⟨r, hr, hs⟩
        · exact ⟨h.cu.lt, own_apart h.cu h.out (by decide)⟩
        · exact ⟨h.cv.lt, own_apart h.cv h.out (by decide)⟩
        · obtain ⟨k, hk, rfl⟩ := List.mem_iff_getElem.1 hr
          obtain ⟨s', hs'⟩ := get_lt (L := Lc) (k := k) (by rw [← h.ct.1]; exact hk)
          obtain ⟨r', a, b, c⟩ := h.ct.2 k s' hs'
          rw [List.getElem?_eq_getElem hk] at a
          injection a with a
          subst a
          have := (c s hs).2
          exact ⟨fun g hg => (this g hg).2, fun g hg e => by have := (this g hg).1; have := h.blk g e; omega⟩⟩
/-- A new letter. -/
theorem OldC.new (h : OldC D L n1 w v ds m) (hn : n1 ≤ w.heap.size) {w3 : World} (K : Below w.heap.size w w3) (hg : w3.grownBy w' v.ownBlock) {g1 g2 : Nat} (h1 : Own 62 w3 w.heap.size (.slice (some ⟨g1, 0, none⟩) 0 0) 2 encRg []) (h2 : Own 64 w3 w.heap.size (.slice (some ⟨g2, 0, none⟩) 0 0) 5 encRt [])
    (hO : Own 32 w' n1 v' 2 encLt (ds ++ [⟨.slice (some ⟨g1, 0, none⟩) 0 0, .slice (some ⟨g2, 0, none⟩) 0 0, []⟩])) (hf : Frsh w3 v v') :
    Mid D L n1 w' v' (ds ++ [⟨.slice (some ⟨g1, 0, none⟩) 0 0, .slice (some ⟨g2, 0, none⟩) 0 0, []⟩]) m w.heap.size w'.heap.size (.slice (some ⟨g1, 0, none⟩) 0 0) (.slice (some ⟨g2, 0, none⟩) 0 0) [] [] [] := by
  have h3 := h.out.below K
  refine ⟨hO, by simp [h.len], ⟨hn, Nat.le_trans K.size hg.size, Nat.le_refl _⟩, hO.lt, fun j hj => ?_, h1.grown hg (own_apart h1 h3 (by decide)), h2.grown hg (own_apart h2 h3 (by decide)), rfl, fun k s hk => by simp at hk⟩
  obtain ⟨d, a, b, c⟩ := h.old j hj
  have hl : j < ds.length := by rw [h.len]; exact hj
  refine ⟨d, by rw [List.getElem?_append_left hl]; exact a, shLt.keep hg (fun s hs g hg' e => (c s hs).2 g hg' e) (Sh.below b K), fun s hs => ⟨(c s hs).1, ?_⟩⟩
  exact ((c s hs).2.symm.frsh' hf (fun g hg' => Nat.lt_of_lt_of_le ((c s hs).1 g hg') K.size)).symm
end
end Go.Proofs.Ytjkfnjjkjhggfaa
