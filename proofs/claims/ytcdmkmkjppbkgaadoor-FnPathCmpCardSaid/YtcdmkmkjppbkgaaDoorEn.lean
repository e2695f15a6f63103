/- FnPathCmp: the walk. -/
import Derived.Test.YtcdmkmkjppbkgaaDoorEm
set_option linter.unusedSimpArgs false
set_option linter.unusedVariables false
namespace Go.Proofs.YtcdmkmkjppbkgaaDoor
open Go.RowKit

theorem pcmp_cons (h : Int) (L K : List Int) : pcmp (h :: L) (h :: K) = pcmp L K := by
  unfold pcmp orz
  have e : icmp ((h :: L).length : Int) ((h :: K).length : Int) = icmp (L.length : Int) (K.length : Int) := by
    unfold icmp; simp only [List.length_cons]; (repeat' split) <;> omega
  have e2 : lex (h :: L) (h :: K) = lex L K := by
    simp only [lex]; rw [if_pos (icmp_0.2 rfl)]
  rw [e, e2]
theorem pcmp_bd (L K : List Int) : pcmp L K = -1 ∨ pcmp L K = 0 ∨ pcmp L K = 1 := by
  unfold pcmp orz
  have h1 := lex_bd L K
  have h2 := icmp_bd (L.length : Int) (K.length : Int)
  split <;> omega
theorem padd_ok {L : List Int} {h : Int} (g : PAdd L h) : POk (h :: L) :=
  ⟨fun x hx => by rcases List.mem_cons.1 hx with rfl | hx; exact g.2.1; exact g.1.1 x hx, List.nodup_cons.2 ⟨g.2.2, g.1.2⟩⟩
set_option maxHeartbeats 4000000 in
theorem FnPathCmp_walk (a0 a1 : Option Addr) (n0 c0 n1 c1 : Nat) (a : Addr) (w : World) (h0 : Given w (.slice a0 n0 c0)) (_hG : Given w (.slice a1 n1 c1)) (hE : EPath w a) :
    Calls Tryd.prog 7 #[.slice a0 n0 c0, .slice a1 n1 c1] w fun e w' => e = .returned (.bool true) ∧ Below w.heap.size w w' := by
  by_cases hn0 : 1048576 < n0
  · have e0 : decide (1048576 < (n0 : Int)) = true := by simp; omega
    go_enter Tryd.func7, Tryd.ntmps7
    go_wp2
    go_ret
    exact ⟨rfl, Below.refl _ _⟩
  have e0 : decide (1048576 < (n0 : Int)) = false := by simp; omega
  by_cases hn1 : 1048576 < n1
  · have e1 : decide (1048576 < (n1 : Int)) = true := by simp; omega
    go_enter Tryd.func7, Tryd.ntmps7
    go_wp2
    go_ret
    exact ⟨rfl, Below.refl _ _⟩
  have e1 : decide (1048576 < (n1 : Int)) = false := by simp; omega
  have hF := Fb.start w
  clear _hG
  go_enter Tryd.func7, Tryd.ntmps7
  go_wp2_with fail
  refine (drawPathCmp_any _ _ h0).mono ?_; rintro e w1 ⟨v1, v2, L, K, rfl, t1, t2, -, -, hb1⟩
  replace hF := hF.below hb1
  replace hE := hE.below hb1
  clear hb1 h0
  have h1 := t1.1
  have h2 := t2.1
  obtain ⟨N, hN⟩ : ∃ N, PC L K = N := ⟨_, rfl⟩
  have hNN : (N != N) = false := by simp
  have hNe : (N == N) = true := by simp
  have tok1 : True := trivial
  have tok2 : True := trivial
  by_cases p1 : POk L
  · have d1 : decide (POk L) = true := by simp [p1]
    by_cases p2 : POk K
    · have d2 : decide (POk K) = true := by simp [p2]
      have HN : Hid (pcmp L K = N) := (PC_ok p1 p2).symm.trans hN
      have HB : Hid (PC K L = - N) := by show _ = _; rw [PC_ok p2 p1, pcmp_neg, HN.out]
      have P1 := Lib.hid p1
      have P2 := Lib.hid p2
      have T1 := Lib.hid t1
      have T2 := Lib.hid t2
      clear p1 p2 t1 t2
      obtain ⟨q, hq⟩ : ∃ q : Nat, (n1 : Int) % 5 = (q : Int) := ⟨n1 % 5, by simp⟩
      have hq5 : q < 5 := by
        have := Int.emod_lt_of_pos (n1 : Int) (show 0 < (5 : Int) by omega)
        omega
      obtain ⟨w0, hw0⟩ : ∃ w0 : World, w0 = w1 := ⟨_, rfl⟩
      go_wp2_with (first | (go_at_call 25; go_must (refine (iPathCmp_any _ _ L K a _ h1 h2 hE).mono ?_); rintro e wx ⟨rfl, hbx⟩; replace hF := hF.below hbx; (try replace h1 := Rows.below h1 hbx); (try replace h2 := Rows.below h2 hbx); (try replace h3 := Rows.below h3 hbx); (try replace h4 := Rows.below h4 hbx); (try replace hG := hG.below hbx); (try replace hE := hE.below hbx); clear hbx) | (go_at_call 26; go_must (refine (sPathCmp_any _ _ L K _ h1 h2).mono ?_); rintro e wx ⟨rfl, hbx⟩; replace hF := hF.below hbx; (try replace h1 := Rows.below h1 hbx); (try replace h2 := Rows.below h2 hbx); (try replace h3 := Rows.below h3 hbx); (try replace h4 := Rows.below h4 hbx); (try replace hG := hG.below hbx); (try replace hE := hE.below hbx); clear hbx) | (go_at_call 15; clear tok1; go_must (refine (sPathOk_any _ L _ h1).mono ?_); rintro e wx ⟨rfl, hbx⟩; replace hF := hF.below hbx; (try replace h1 := Rows.below h1 hbx); (try replace h2 := Rows.below h2 hbx); (try replace h3 := Rows.below h3 hbx); (try replace h4 := Rows.below h4 hbx); (try replace hG := hG.below hbx); (try replace hE := hE.below hbx); clear hbx) | (go_at_call 15; go_must (refine (sPathOk_any _ K _ h2).mono ?_); rintro e wx ⟨rfl, hbx⟩; replace hF := hF.below hbx; (try replace h1 := Rows.below h1 hbx); (try replace h2 := Rows.below h2 hbx); (try replace h3 := Rows.below h3 hbx); (try replace h4 := Rows.below h4 hbx); (try replace hG := hG.below hbx); (try replace hE := hE.below hbx); clear hbx))
      have t1 : It wx v1 L := ⟨h1, T1.out.2⟩
      have t2 : It wx v2 K := ⟨h2, T2.out.2⟩
      obtain ⟨r1, hr1⟩ : ∃ r, Hid (decide (PAdd L (1 + (q : Int))) = r) := ⟨_, rfl⟩
      obtain ⟨r2, hr2⟩ : ∃ r, Hid (decide (PAdd K (1 + (q : Int))) = r) := ⟨_, rfl⟩
      have c1 := iPathAdd_any v1 L (1 + (q : Int)) a _ t1 hE
      rw [hr1.out] at c1
      refine c1.mono ?_; rintro e w3 ⟨vx1, rfl, hO1, hb3⟩
      clear c1
      replace hF := hF.below hb3
      replace hE := hE.below hb3
      replace h1 := Rows.below h1 hb3
      replace h2 := Rows.below h2 hb3
      replace t2 := t2.below hb3
      have h3 := hO1.ints
      clear hb3 hO1 t1
      go_wp2_with fail
      have c1 := iPathAdd_any v2 K (1 + (q : Int)) a _ t2 hE
      rw [hr2.out] at c1
      refine c1.mono ?_; rintro e w4 ⟨vx2, rfl, hO2, hb3⟩
      clear c1
      replace hF := hF.below hb3
      replace hE := hE.below hb3
      replace h1 := Rows.below h1 hb3
      replace h2 := Rows.below h2 hb3
      replace h3 := Rows.below h3 hb3
      have h4 := hO2.ints
      clear hb3 hO2 t2 hN hNN hNe
      have HX : Hid (r1 = true → r2 = true → PC (padd L (1 + (q : Int))) (padd K (1 + (q : Int))) = N) := by
        show r1 = true → _
        intro e1 e2
        have g1 : PAdd L (1 + (q : Int)) := of_decide_eq_true (hr1.out.trans e1)
        have g2 : PAdd K (1 + (q : Int)) := of_decide_eq_true (hr2.out.trans e2)
        rw [show padd L (1 + (q : Int)) = (1 + (q : Int)) :: L from if_pos g1, show padd K (1 + (q : Int)) = (1 + (q : Int)) :: K from if_pos g2, PC_ok (padd_ok g1) (padd_ok g2), pcmp_cons, HN.out]
      obtain ⟨X, hX⟩ : ∃ X, padd L (1 + (q : Int)) = X := ⟨_, rfl⟩
      obtain ⟨Y, hY⟩ : ∃ Y, padd K (1 + (q : Int)) = Y := ⟨_, rfl⟩
      rw [hX] at h3 HX
      rw [hY] at h4 HX
      have hLK : Hid (N = 0 ↔ L = K) := by show _ ↔ _; rw [← HN.out]; exact pcmp_0
      have hlt : Hid (N = -1 ↔ L.length < K.length ∨ L.length = K.length ∧ lex L K = -1) := by show _ ↔ _; rw [← HN.out]; exact pcmp_lt
      have hbd := pcmp_bd L K
      rw [HN.out] at hbd
      obtain ⟨ao1, cp1, rfl, -⟩ := T1.out.1.ex
      obtain ⟨ao2, cp2, rfl, -⟩ := T2.out.1.ex
      clear hX hY hr1 hr2 HN hq
      have CB := Lib.hid (fun w g2 g1 gE => (show Calls Tryd.prog 25 #[.slice ao2 K.length cp2, .slice ao1 L.length cp1] w fun e w' => e = .returned (.int .i64 (-N)) ∧ Below w.heap.size w w' from by have := iPathCmp_any (.slice ao2 K.length cp2) (.slice ao1 L.length cp1) K L a w g2 g1 gE; rwa [HB.out] at this))
      obtain ⟨l, hl⟩ : ∃ l, Hid (L.length = l) := ⟨_, rfl⟩
      obtain ⟨m, hm⟩ : ∃ m, Hid (K.length = m) := ⟨_, rfl⟩
      have hlt2 : Hid (N = -1 ↔ l < m ∨ l = m ∧ lex L K = -1) := by have := hlt.out; rwa [hl.out, hm.out] at this
      have heq2 : Hid (L = K → l = m) := by show _ → _; intro e; rw [← hl.out, ← hm.out, e]
      rw [hl.out] at h1 CB ⊢
      rw [hm.out] at h2 CB ⊢
      clear hlt
      rcases hbd with rfl | rfl | rfl
      · have dLK : decide (L = K) = false := decide_eq_false fun g => by have := hLK.out.2 g; omega
        have CX := Lib.hid (fun e1 e2 w g3 g4 gE => (show Calls Tryd.prog 25 #[vx1, vx2] w fun e w' => e = .returned (.int .i64 (-1)) ∧ Below w.heap.size w w' from by have := iPathCmp_any vx1 vx2 X Y a w g3 g4 gE; rwa [HX.out e1 e2] at this))
        by_cases hle : (m : Int) ≤ (l : Int)
        all_goals
          cases r1
          · go_wp2_with (first | (go_at_call 25; clear tok2; go_must (refine (CB.out _ h2 h1 hE).mono ?_); rintro e wx ⟨rfl, hbx⟩; replace hF := hF.below hbx; replace h1 := Rows.below h1 hbx; replace h2 := Rows.below h2 hbx; replace h3 := Rows.below h3 hbx; replace h4 := Rows.below h4 hbx; replace hE := hE.below hbx; clear hbx) | (go_at_call 23; go_must (refine (lyInts_any _ _ L K _ h1 h2).mono ?_); rintro e wx ⟨rfl, hbx⟩; replace hF := hF.below hbx; (try replace h1 := Rows.below h1 hbx); (try replace h2 := Rows.below h2 hbx); (try replace h3 := Rows.below h3 hbx); (try replace h4 := Rows.below h4 hbx); (try replace hG := hG.below hbx); (try replace hE := hE.below hbx); clear hbx) | (go_at_call 25; go_must (refine (CX.out _ h3 h4 hE).mono ?_); rintro e wx ⟨rfl, hbx⟩; replace hF := hF.below hbx; clear hbx))
            go_ret
            exact ⟨rfl, hF.kp⟩
          · cases r2
            · go_wp2_with (first | (go_at_call 25; clear tok2; go_must (refine (CB.out _ h2 h1 hE).mono ?_); rintro e wx ⟨rfl, hbx⟩; replace hF := hF.below hbx; replace h1 := Rows.below h1 hbx; replace h2 := Rows.below h2 hbx; replace h3 := Rows.below h3 hbx; replace h4 := Rows.below h4 hbx; replace hE := hE.below hbx; clear hbx) | (go_at_call 23; go_must (refine (lyInts_any _ _ L K _ h1 h2).mono ?_); rintro e wx ⟨rfl, hbx⟩; replace hF := hF.below hbx; (try replace h1 := Rows.below h1 hbx); (try replace h2 := Rows.below h2 hbx); (try replace h3 := Rows.below h3 hbx); (try replace h4 := Rows.below h4 hbx); (try replace hG := hG.below hbx); (try replace hE := hE.below hbx); clear hbx) | (go_at_call 25; go_must (refine (CX.out _ h3 h4 hE).mono ?_); rintro e wx ⟨rfl, hbx⟩; replace hF := hF.below hbx; clear hbx))
              go_ret
              exact ⟨rfl, hF.kp⟩
            · replace CX := Lib.hid (CX.out rfl rfl)
              go_wp2_with (first | (go_at_call 25; clear tok2; go_must (refine (CB.out _ h2 h1 hE).mono ?_); rintro e wx ⟨rfl, hbx⟩; replace hF := hF.below hbx; replace h1 := Rows.below h1 hbx; replace h2 := Rows.below h2 hbx; replace h3 := Rows.below h3 hbx; replace h4 := Rows.below h4 hbx; replace hE := hE.below hbx; clear hbx) | (go_at_call 23; go_must (refine (lyInts_any _ _ L K _ h1 h2).mono ?_); rintro e wx ⟨rfl, hbx⟩; replace hF := hF.below hbx; (try replace h1 := Rows.below h1 hbx); (try replace h2 := Rows.below h2 hbx); (try replace h3 := Rows.below h3 hbx); (try replace h4 := Rows.below h4 hbx); (try replace hG := hG.below hbx); (try replace hE := hE.below hbx); clear hbx) | (go_at_call 25; go_must (refine (CX.out _ h3 h4 hE).mono ?_); rintro e wx ⟨rfl, hbx⟩; replace hF := hF.below hbx; clear hbx))
              go_ret
              exact ⟨rfl, hF.kp⟩
      · have dLK : decide (L = K) = true := decide_eq_true (hLK.out.1 rfl)
        have CX := Lib.hid (fun e1 e2 w g3 g4 gE => (show Calls Tryd.prog 25 #[vx1, vx2] w fun e w' => e = .returned (.int .i64 0) ∧ Below w.heap.size w w' from by have := iPathCmp_any vx1 vx2 X Y a w g3 g4 gE; rwa [HX.out e1 e2] at this))
        have hle : (m : Int) ≤ (l : Int) := by have := heq2.out (hLK.out.1 rfl); omega
        cases r1
        · go_wp2_with (first | (go_at_call 25; clear tok2; go_must (refine (CB.out _ h2 h1 hE).mono ?_); rintro e wx ⟨rfl, hbx⟩; replace hF := hF.below hbx; replace h1 := Rows.below h1 hbx; replace h2 := Rows.below h2 hbx; replace h3 := Rows.below h3 hbx; replace h4 := Rows.below h4 hbx; replace hE := hE.below hbx; clear hbx) | (go_at_call 23; go_must (refine (lyInts_any _ _ L K _ h1 h2).mono ?_); rintro e wx ⟨rfl, hbx⟩; replace hF := hF.below hbx; (try replace h1 := Rows.below h1 hbx); (try replace h2 := Rows.below h2 hbx); (try replace h3 := Rows.below h3 hbx); (try replace h4 := Rows.below h4 hbx); (try replace hG := hG.below hbx); (try replace hE := hE.below hbx); clear hbx) | (go_at_call 25; go_must (refine (CX.out _ h3 h4 hE).mono ?_); rintro e wx ⟨rfl, hbx⟩; replace hF := hF.below hbx; clear hbx))
          go_ret
          exact ⟨rfl, hF.kp⟩
        · cases r2
          · go_wp2_with (first | (go_at_call 25; clear tok2; go_must (refine (CB.out _ h2 h1 hE).mono ?_); rintro e wx ⟨rfl, hbx⟩; replace hF := hF.below hbx; replace h1 := Rows.below h1 hbx; replace h2 := Rows.below h2 hbx; replace h3 := Rows.below h3 hbx; replace h4 := Rows.below h4 hbx; replace hE := hE.below hbx; clear hbx) | (go_at_call 23; go_must (refine (lyInts_any _ _ L K _ h1 h2).mono ?_); rintro e wx ⟨rfl, hbx⟩; replace hF := hF.below hbx; (try replace h1 := Rows.below h1 hbx); (try replace h2 := Rows.below h2 hbx); (try replace h3 := Rows.below h3 hbx); (try replace h4 := Rows.below h4 hbx); (try replace hG := hG.below hbx); (try replace hE := hE.below hbx); clear hbx) | (go_at_call 25; go_must (refine (CX.out _ h3 h4 hE).mono ?_); rintro e wx ⟨rfl, hbx⟩; replace hF := hF.below hbx; clear hbx))
            go_ret
            exact ⟨rfl, hF.kp⟩
          · replace CX := Lib.hid (CX.out rfl rfl)
            go_wp2_with (first | (go_at_call 25; clear tok2; go_must (refine (CB.out _ h2 h1 hE).mono ?_); rintro e wx ⟨rfl, hbx⟩; replace hF := hF.below hbx; replace h1 := Rows.below h1 hbx; replace h2 := Rows.below h2 hbx; replace h3 := Rows.below h3 hbx; replace h4 := Rows.below h4 hbx; replace hE := hE.below hbx; clear hbx) | (go_at_call 23; go_must (refine (lyInts_any _ _ L K _ h1 h2).mono ?_); rintro e wx ⟨rfl, hbx⟩; replace hF := hF.below hbx; (try replace h1 := Rows.below h1 hbx); (try replace h2 := Rows.below h2 hbx); (try replace h3 := Rows.below h3 hbx); (try replace h4 := Rows.below h4 hbx); (try replace hG := hG.below hbx); (try replace hE := hE.below hbx); clear hbx) | (go_at_call 25; go_must (refine (CX.out _ h3 h4 hE).mono ?_); rintro e wx ⟨rfl, hbx⟩; replace hF := hF.below hbx; clear hbx))
            go_ret
            exact ⟨rfl, hF.kp⟩
      · have dLK : decide (L = K) = false := decide_eq_false fun g => by have := hLK.out.2 g; omega
        have CX := Lib.hid (fun e1 e2 w g3 g4 gE => (show Calls Tryd.prog 25 #[vx1, vx2] w fun e w' => e = .returned (.int .i64 1) ∧ Below w.heap.size w w' from by have := iPathCmp_any vx1 vx2 X Y a w g3 g4 gE; rwa [HX.out e1 e2] at this))
        have hle : (m : Int) ≤ (l : Int) := by
          by_cases g : l < m
          · have := hlt2.out.2 (Or.inl g); omega
          · omega
        cases r1
        · go_wp2_with (first | (go_at_call 25; clear tok2; go_must (refine (CB.out _ h2 h1 hE).mono ?_); rintro e wx ⟨rfl, hbx⟩; replace hF := hF.below hbx; replace h1 := Rows.below h1 hbx; replace h2 := Rows.below h2 hbx; replace h3 := Rows.below h3 hbx; replace h4 := Rows.below h4 hbx; replace hE := hE.below hbx; clear hbx) | (go_at_call 23; go_must (refine (lyInts_any _ _ L K _ h1 h2).mono ?_); rintro e wx ⟨rfl, hbx⟩; replace hF := hF.below hbx; (try replace h1 := Rows.below h1 hbx); (try replace h2 := Rows.below h2 hbx); (try replace h3 := Rows.below h3 hbx); (try replace h4 := Rows.below h4 hbx); (try replace hG := hG.below hbx); (try replace hE := hE.below hbx); clear hbx) | (go_at_call 25; go_must (refine (CX.out _ h3 h4 hE).mono ?_); rintro e wx ⟨rfl, hbx⟩; replace hF := hF.below hbx; clear hbx))
          go_ret
          exact ⟨rfl, hF.kp⟩
        · cases r2
          · go_wp2_with (first | (go_at_call 25; clear tok2; go_must (refine (CB.out _ h2 h1 hE).mono ?_); rintro e wx ⟨rfl, hbx⟩; replace hF := hF.below hbx; replace h1 := Rows.below h1 hbx; replace h2 := Rows.below h2 hbx; replace h3 := Rows.below h3 hbx; replace h4 := Rows.below h4 hbx; replace hE := hE.below hbx; clear hbx) | (go_at_call 23; go_must (refine (lyInts_any _ _ L K _ h1 h2).mono ?_); rintro e wx ⟨rfl, hbx⟩; replace hF := hF.below hbx; (try replace h1 := Rows.below h1 hbx); (try replace h2 := Rows.below h2 hbx); (try replace h3 := Rows.below h3 hbx); (try replace h4 := Rows.below h4 hbx); (try replace hG := hG.below hbx); (try replace hE := hE.below hbx); clear hbx) | (go_at_call 25; go_must (refine (CX.out _ h3 h4 hE).mono ?_); rintro e wx ⟨rfl, hbx⟩; replace hF := hF.below hbx; clear hbx))
            go_ret
            exact ⟨rfl, hF.kp⟩
          · replace CX := Lib.hid (CX.out rfl rfl)
            go_wp2_with (first | (go_at_call 25; clear tok2; go_must (refine (CB.out _ h2 h1 hE).mono ?_); rintro e wx ⟨rfl, hbx⟩; replace hF := hF.below hbx; replace h1 := Rows.below h1 hbx; replace h2 := Rows.below h2 hbx; replace h3 := Rows.below h3 hbx; replace h4 := Rows.below h4 hbx; replace hE := hE.below hbx; clear hbx) | (go_at_call 23; go_must (refine (lyInts_any _ _ L K _ h1 h2).mono ?_); rintro e wx ⟨rfl, hbx⟩; replace hF := hF.below hbx; (try replace h1 := Rows.below h1 hbx); (try replace h2 := Rows.below h2 hbx); (try replace h3 := Rows.below h3 hbx); (try replace h4 := Rows.below h4 hbx); (try replace hG := hG.below hbx); (try replace hE := hE.below hbx); clear hbx) | (go_at_call 25; go_must (refine (CX.out _ h3 h4 hE).mono ?_); rintro e wx ⟨rfl, hbx⟩; replace hF := hF.below hbx; clear hbx))
            go_ret
            exact ⟨rfl, hF.kp⟩
    · have d2 : decide (POk K) = false := by simp [p2]
      clear p1 p2
      go_wp2_with (first | (go_at_call 25; go_must (refine (iPathCmp_any _ _ L K a _ h1 h2 hE).mono ?_); rintro e wx ⟨rfl, hbx⟩; replace hF := hF.below hbx; (try replace h1 := Rows.below h1 hbx); (try replace h2 := Rows.below h2 hbx); (try replace h3 := Rows.below h3 hbx); (try replace h4 := Rows.below h4 hbx); (try replace hG := hG.below hbx); (try replace hE := hE.below hbx); clear hbx) | (go_at_call 26; go_must (refine (sPathCmp_any _ _ L K _ h1 h2).mono ?_); rintro e wx ⟨rfl, hbx⟩; replace hF := hF.below hbx; (try replace h1 := Rows.below h1 hbx); (try replace h2 := Rows.below h2 hbx); (try replace h3 := Rows.below h3 hbx); (try replace h4 := Rows.below h4 hbx); (try replace hG := hG.below hbx); (try replace hE := hE.below hbx); clear hbx) | (go_at_call 15; clear tok1; go_must (refine (sPathOk_any _ L _ h1).mono ?_); rintro e wx ⟨rfl, hbx⟩; replace hF := hF.below hbx; (try replace h1 := Rows.below h1 hbx); (try replace h2 := Rows.below h2 hbx); (try replace h3 := Rows.below h3 hbx); (try replace h4 := Rows.below h4 hbx); (try replace hG := hG.below hbx); (try replace hE := hE.below hbx); clear hbx) | (go_at_call 15; go_must (refine (sPathOk_any _ K _ h2).mono ?_); rintro e wx ⟨rfl, hbx⟩; replace hF := hF.below hbx; (try replace h1 := Rows.below h1 hbx); (try replace h2 := Rows.below h2 hbx); (try replace h3 := Rows.below h3 hbx); (try replace h4 := Rows.below h4 hbx); (try replace hG := hG.below hbx); (try replace hE := hE.below hbx); clear hbx))
      go_ret
      exact ⟨rfl, hF.kp⟩
  · have d1 : decide (POk L) = false := by simp [p1]
    clear p1
    go_wp2_with (first | (go_at_call 25; go_must (refine (iPathCmp_any _ _ L K a _ h1 h2 hE).mono ?_); rintro e wx ⟨rfl, hbx⟩; replace hF := hF.below hbx; (try replace h1 := Rows.below h1 hbx); (try replace h2 := Rows.below h2 hbx); (try replace h3 := Rows.below h3 hbx); (try replace h4 := Rows.below h4 hbx); (try replace hG := hG.below hbx); (try replace hE := hE.below hbx); clear hbx) | (go_at_call 26; go_must (refine (sPathCmp_any _ _ L K _ h1 h2).mono ?_); rintro e wx ⟨rfl, hbx⟩; replace hF := hF.below hbx; (try replace h1 := Rows.below h1 hbx); (try replace h2 := Rows.below h2 hbx); (try replace h3 := Rows.below h3 hbx); (try replace h4 := Rows.below h4 hbx); (try replace hG := hG.below hbx); (try replace hE := hE.below hbx); clear hbx) | (go_at_call 15; go_must (refine (sPathOk_any _ L _ h1).mono ?_); rintro e wx ⟨rfl, hbx⟩; replace hF := hF.below hbx; (try replace h1 := Rows.below h1 hbx); (try replace h2 := Rows.below h2 hbx); (try replace h3 := Rows.below h3 hbx); (try replace h4 := Rows.below h4 hbx); (try replace hG := hG.below hbx); (try replace hE := hE.below hbx); clear hbx))
    go_ret
    exact ⟨rfl, hF.kp⟩
end Go.Proofs.YtcdmkmkjppbkgaaDoor
