/- SealHas of the program. The orders of numbers, rows, paths: plain laws. Is a seal there, by the model. -/
import Derived.Test.YtiocomefkckbfaaDoorZ12
import Derived.Test.YtiocomefkckbfaaDoorZ8
import Derived.Test.YtiocomefkckbfaaDoorZ4
set_option linter.unusedSimpArgs false
set_option linter.unusedVariables false
namespace Go.Proofs.YtiocomefkckbfaaDoor
open Go.RowKit Go.Maps Go.WideMaps

set_option maxHeartbeats 4000000 in
theorem iSealHas_any (v pv : Value) (L : List Sl) (s : Sl) (w : World) (h : Sls w v L) (hp : Ints w pv s.2.2.2.2) (hL : L.length ≤ 100000) (hs : ∀ s ∈ L, SmS s) (hsm : SmS s) (hT : Tab w) :
    Calls Tryd.prog 12 #[v, .agg #[.int .i64 s.1, .int .i64 s.2.1, .int .i64 s.2.2.1, .int .i64 s.2.2.2.1, pv]] w fun e w' => e = .returned (.bool (decide (s ∈ L))) ∧ Below w.heap.size w w' := by
  obtain ⟨a1, m1, k1, rfl, -⟩ := Ints.sl hp
  have hF := (Fb.start w).alloc [.int .i64 s.1, .int .i64 s.2.1, .int .i64 s.2.2.1, .int .i64 s.2.2.2.1, .slice a1 m1 k1] 28
  have HL := Lib.hid (h.below hF.kp)
  have HP := Lib.hid (Rows.below hp hF.kp)
  have HT := Lib.hid (tab_below hT hF.kp)
  have HS := Lib.hid hs
  have HM := Lib.hid hsm
  have o := hF.own; simp only [World.size_alloc, World.size_drew, World.size_setCell, List.mem_cons, List.not_mem_nil, or_false, forall_eq_or_imp, forall_eq, At, and_true, Nat.zero_add, Nat.reduceAdd, List.set_cons_zero, List.set_cons_succ] at o
  clear h hp hT hs hsm
  go_enter Tryd.func12, Tryd.ntmps12
  go_upto_region 1 with (fail)
  obtain ⟨wb, hwb⟩ : ∃ wb : World, wb = w.alloc (.cells #[.int .i64 s.1, .int .i64 s.2.1, .int .i64 s.2.2.1, .int .i64 s.2.2.2.1, .slice a1 m1 k1] 28) := ⟨_, rfl⟩
  have hKB : Below w.heap.size w wb := by rw [hwb]; exact hF.kp
  rw [← hwb] at HL HP HT o ⊢
  clear hwb hF
  have HC := Lib.hid (show wb.cell? ⟨w.heap.size, 0, none⟩ = some (.int .i64 s.1) ∧ wb.cell? ⟨w.heap.size, 1, none⟩ = some (.int .i64 s.2.1) ∧ wb.cell? ⟨w.heap.size, 2, none⟩ = some (.int .i64 s.2.2.1) ∧ wb.cell? ⟨w.heap.size, 3, none⟩ = some (.int .i64 s.2.2.2.1) ∧ wb.cell? ⟨w.heap.size, 4, none⟩ = some (.slice a1 m1 k1) by simp [o])
  have HKB := Lib.hid hKB
  have hQ := Fb.start wb
  clear o hKB
  obtain ⟨q0, q1, q2, q3, q4⟩ := HC.out
  go_region_held3 (fun w' => w'.cell? ⟨w.heap.size, 0, none⟩ = some (.int .i64 s.1) ∧ w'.cell? ⟨w.heap.size, 1, none⟩ = some (.int .i64 s.2.1) ∧ w'.cell? ⟨w.heap.size, 2, none⟩ = some (.int .i64 s.2.2.1) ∧ w'.cell? ⟨w.heap.size, 3, none⟩ = some (.int .i64 s.2.2.2.1) ∧ w'.cell? ⟨w.heap.size, 4, none⟩ = some (.slice a1 m1 k1))
    (first | (with_reducible assumption) | (exact ⟨Fb.old (w := wb) (L := []) (by repeat (first | assumption | apply Fb.alloc_1 | apply Fb.alloc_2 | apply Fb.alloc_3 | apply Fb.alloc_4 | apply Fb.alloc_5 | apply Fb.alloc_8 | apply Fb.drew | apply Fb.drewN | apply Fb.other)) HC.out.1, Fb.old (w := wb) (L := []) (by repeat (first | assumption | apply Fb.alloc_1 | apply Fb.alloc_2 | apply Fb.alloc_3 | apply Fb.alloc_4 | apply Fb.alloc_5 | apply Fb.alloc_8 | apply Fb.drew | apply Fb.drewN | apply Fb.other)) HC.out.2.1, Fb.old (w := wb) (L := []) (by repeat (first | assumption | apply Fb.alloc_1 | apply Fb.alloc_2 | apply Fb.alloc_3 | apply Fb.alloc_4 | apply Fb.alloc_5 | apply Fb.alloc_8 | apply Fb.drew | apply Fb.drewN | apply Fb.other)) HC.out.2.2.1, Fb.old (w := wb) (L := []) (by repeat (first | assumption | apply Fb.alloc_1 | apply Fb.alloc_2 | apply Fb.alloc_3 | apply Fb.alloc_4 | apply Fb.alloc_5 | apply Fb.alloc_8 | apply Fb.drew | apply Fb.drewN | apply Fb.other)) HC.out.2.2.2.1, Fb.old (w := wb) (L := []) (by repeat (first | assumption | apply Fb.alloc_1 | apply Fb.alloc_2 | apply Fb.alloc_3 | apply Fb.alloc_4 | apply Fb.alloc_5 | apply Fb.alloc_8 | apply Fb.drew | apply Fb.drewN | apply Fb.other)) HC.out.2.2.2.2⟩))
    (first
      | (go_at_call 33; go_must (refine (keysOf_any _ L _ (HL.out.below (Fb.kp (W := wb) (L := []) (by repeat (first | assumption | apply Fb.alloc_1 | apply Fb.alloc_2 | apply Fb.alloc_3 | apply Fb.alloc_4 | apply Fb.alloc_5 | apply Fb.alloc_8 | apply Fb.drew | apply Fb.drewN | apply Fb.other)))) hL HS.out (tab_below HT.out (Fb.kp (W := wb) (L := []) (by repeat (first | assumption | apply Fb.alloc_1 | apply Fb.alloc_2 | apply Fb.alloc_3 | apply Fb.alloc_4 | apply Fb.alloc_5 | apply Fb.alloc_8 | apply Fb.drew | apply Fb.drewN | apply Fb.other))))).mono ?_); rintro e wx ⟨b, n, D, rfl, hO, hD, hbx⟩; replace hQ := Fb.below (W := wb) (L := []) (by repeat (first | assumption | apply Fb.alloc_1 | apply Fb.alloc_2 | apply Fb.alloc_3 | apply Fb.alloc_4 | apply Fb.alloc_5 | apply Fb.alloc_8 | apply Fb.drew | apply Fb.drewN | apply Fb.other)) hbx; replace hD := Lib.hid hD; clear hbx)
      | (go_at_call 35; go_must (refine (key_any s.1 s.2.1 s.2.2.1 s.2.2.2.1 _ s.2.2.2.2 _ (Rows.below HP.out (Fb.kp (W := wb) (L := []) (by repeat (first | assumption | apply Fb.alloc_1 | apply Fb.alloc_2 | apply Fb.alloc_3 | apply Fb.alloc_4 | apply Fb.alloc_5 | apply Fb.alloc_8 | apply Fb.drew | apply Fb.drewN | apply Fb.other)))) HM.out.2.2.2.2.2 (tab_below HT.out (Fb.kp (W := wb) (L := []) (by repeat (first | assumption | apply Fb.alloc_1 | apply Fb.alloc_2 | apply Fb.alloc_3 | apply Fb.alloc_4 | apply Fb.alloc_5 | apply Fb.alloc_8 | apply Fb.drew | apply Fb.drewN | apply Fb.other)))) HM.out.2.2.2.2.1).mono ?_); rintro e wx ⟨rfl, hbx⟩; replace hQ := Fb.below (W := wb) (L := []) (by repeat (first | assumption | apply Fb.alloc_1 | apply Fb.alloc_2 | apply Fb.alloc_3 | apply Fb.alloc_4 | apply Fb.alloc_5 | apply Fb.alloc_8 | apply Fb.drew | apply Fb.drewN | apply Fb.other)) hbx; (try replace hO := hO.kept (below_grownBy hbx) (by simp)); clear hbx)
      | (go_at_call 34; go_must (refine (has_any2 s b n D L _ hO hD.out HM.out).mono ?_); rintro e wx ⟨rfl, hbx⟩; replace hQ := Fb.below (W := wb) (L := []) (by repeat (first | assumption | apply Fb.alloc_1 | apply Fb.alloc_2 | apply Fb.alloc_3 | apply Fb.alloc_4 | apply Fb.alloc_5 | apply Fb.alloc_8 | apply Fb.drew | apply Fb.drewN | apply Fb.other)) hbx; clear hbx))
  all_goals
    go_wp2
    go_ret
    exact ⟨rfl, HKB.out.trans (hQ.kp.mono HKB.out.size)⟩
end Go.Proofs.YtiocomefkckbfaaDoor
set_option linter.unusedSimpArgs false
set_option linter.unusedVariables false
namespace Go.Proofs.YtiocomefkckbfaaDoor
open Go.RowKit

theorem icmp_neg1 {a b : Int} : icmp a b = -1 ↔ a < b := by unfold icmp; split <;> (try split) <;> omega
theorem icmp_0 {a b : Int} : icmp a b = 0 ↔ a = b := by unfold icmp; split <;> (try split) <;> omega
theorem icmp_1 {a b : Int} : icmp a b = 1 ↔ b < a := by unfold icmp; split <;> (try split) <;> omega
theorem icmp_neg (a b : Int) : icmp b a = - icmp a b := by unfold icmp; (repeat' split) <;> omega
theorem lex_neg : ∀ (L K : List Int), lex K L = - lex L K
  | [], [] => rfl
  | [], _ :: _ => rfl
  | _ :: _, [] => rfl
  | x :: L, y :: K => by
    simp only [lex]
    have h := icmp_neg x y
    by_cases e : icmp x y = 0
    · rw [if_pos e, if_pos (by omega), lex_neg L K]
    · rw [if_neg e, if_neg (by omega), h]
theorem lex_0 : ∀ {L K : List Int}, lex L K = 0 ↔ L = K
  | [], [] => by simp [lex]
  | [], _ :: _ => by simp [lex]
  | _ :: _, [] => by simp [lex]
  | x :: L, y :: K => by
    simp only [lex]
    by_cases e : icmp x y = 0
    · rw [if_pos e, lex_0 (L := L) (K := K)]
      have := icmp_0.1 e
      simp [this]
    · rw [if_neg e]
      have : x ≠ y := fun g => e (icmp_0.2 g)
      simp [e, this]
theorem lex_trans : ∀ {A B C : List Int}, lex A B = -1 → lex B C = -1 → lex A C = -1
  | [], [], _, h, _ => by simp [lex] at h
  | _ :: _, [], _, h, _ => by simp [lex] at h
  | _, _ :: _, [], _, h => by simp [lex] at h
  | [], _ :: _, _ :: _, _, _ => rfl
  | x :: A, y :: B, z :: C, h1, h2 => by
    simp only [lex] at h1 h2 ⊢
    by_cases e1 : icmp x y = 0
    · rw [if_pos e1] at h1
      obtain rfl := icmp_0.1 e1
      by_cases e2 : icmp x z = 0
      · rw [if_pos e2] at h2 ⊢; exact lex_trans h1 h2
      · rw [if_neg e2] at h2 ⊢; exact h2
    · rw [if_neg e1] at h1
      have l1 := icmp_neg1.1 h1
      by_cases e2 : icmp y z = 0
      · obtain rfl := icmp_0.1 e2
        rw [if_neg (by omega)]; exact h1
      · rw [if_neg e2] at h2
        have l2 := icmp_neg1.1 h2
        have l3 : icmp x z = -1 := icmp_neg1.2 (by omega)
        rw [if_neg (by omega)]; exact l3
theorem pcmp_lt {L K : List Int} : pcmp L K = -1 ↔ L.length < K.length ∨ L.length = K.length ∧ lex L K = -1 := by
  unfold pcmp orz
  by_cases e : icmp (L.length : Int) (K.length : Int) = 0
  · rw [if_pos e]; have := icmp_0.1 e; omega
  · rw [if_neg e, icmp_neg1]
    have : ¬ ((L.length : Int) = K.length) := fun g => e (icmp_0.2 g)
    omega
theorem pcmp_0 {L K : List Int} : pcmp L K = 0 ↔ L = K := by
  unfold pcmp orz
  by_cases e : icmp (L.length : Int) (K.length : Int) = 0
  · rw [if_pos e]; exact lex_0
  · rw [if_neg e]
    exact ⟨fun g => absurd g e, fun g => absurd (by subst g; exact icmp_0.2 rfl) e⟩
theorem pcmp_neg (L K : List Int) : pcmp K L = - pcmp L K := by
  unfold pcmp orz
  have h := icmp_neg (L.length : Int) (K.length : Int)
  by_cases e : icmp (L.length : Int) (K.length : Int) = 0
  · rw [if_pos e, if_pos (by omega), lex_neg]
  · rw [if_neg e, if_neg (by omega), h]
theorem pcmp_trans {A B C : List Int} (h1 : pcmp A B = -1) (h2 : pcmp B C = -1) : pcmp A C = -1 := by
  rw [pcmp_lt] at *
  rcases h1 with h1 | ⟨h1, g1⟩ <;> rcases h2 with h2 | ⟨h2, g2⟩
  · exact Or.inl (by omega)
  · exact Or.inl (by omega)
  · exact Or.inl (by omega)
  · exact Or.inr ⟨by omega, lex_trans g1 g2⟩
theorem PC_ok {L K : List Int} (h1 : POk L) (h2 : POk K) : PC L K = pcmp L K := if_pos ⟨h1, h2⟩
end Go.Proofs.YtiocomefkckbfaaDoor
set_option linter.unusedSimpArgs false
set_option linter.unusedVariables false
namespace Go.Proofs.YtiocomefkckbfaaDoor
open Go.RowKit

theorem nm_step {α : Type} {L : List α} {k : Nat} {p s : α} (h : s ∉ L.take k) (hp : L[k]? = some p) (hne : ¬ s = p) : s ∉ L.take (k + 1) := by rw [take_succ' hp]; simp [h, hne]
theorem nm_end {α : Type} {L : List α} {k n : Nat} {s : α} (h : s ∉ L.take k) (hn : L.length = n) (hk : n ≤ k) : s ∉ L := by rwa [List.take_of_length_le (by omega)] at h
set_option maxHeartbeats 4000000 in
theorem l13Has_any (v pv : Value) (L : List Sl) (sb st sf sn : Int) (sp : List Int) (w : World) (h1 : Sls w v L) (h2 : Ints w pv sp) :
    Calls Tryd.prog 36 #[v, .agg #[.int .i64 sb, .int .i64 st, .int .i64 sf, .int .i64 sn, pv]] w fun e w' => e = .returned (.bool (decide ((sb, st, sf, sn, sp) ∈ L))) ∧ Below w.heap.size w w' := by
  obtain ⟨a2, m2, k2, rfl, -⟩ := Ints.sl h2
  have hF := (Fb.start w).alloc [.int .i64 sb, .int .i64 st, .int .i64 sf, .int .i64 sn, .slice a2 m2 k2] 28
  obtain ⟨ao, n, cap, rfl, hn, hnc, hcap⟩ := h1.sl
  have HL := Lib.hid h1
  have HK := Lib.hid h2
  clear h1 h2
  go_enter Tryd.func36, Tryd.ntmps36
  go_wp2
  go_loopw [5] (fun i wr => ∃ k : Nat, k ≤ n ∧ i = .int .i64 k ∧ Hid ((sb, st, sf, sn, sp) ∉ L.take k) ∧ Fb w wr [(w.heap.size, [.int .i64 sb, .int .i64 st, .int .i64 sf, .int .i64 sn, .slice a2 m2 k2])]) (fun i _ => n - (intOf i).toNat)
  case atStart => exact ⟨0, Nat.zero_le _, rfl, by show _ ∉ _; simp, hF⟩
  case round =>
    clear hF
    obtain ⟨k, hk, rfl, ht, hF⟩ := hrel
    by_cases hlt : k < n
    · obtain ⟨b1, o1, rfl⟩ := HL.out.adr (by omega)
      obtain ⟨p, hp⟩ := get_of hn.out hlt
      obtain ⟨a1, m1, k1, e0, e1, e2, e3, e4, g1⟩ := HL.out.at hp
      obtain ⟨pb, pt, pf, pn, pp⟩ := p
      dsimp only at e0 e1 e2 e3 e4 g1
      have HP := Lib.hid hp
      clear hp
      have HG := Lib.hid (fun z : Cl wr.heap.size wr => (show Ints z.W _ pp ∧ Ints z.W _ sp from ⟨Rows.below g1 (hF.cl z).kp, Rows.below HK.out (hF.cl z).kp⟩))
      clear g1
      have x0 := fun z : Cl wr.heap.size wr => Cl.old hF z e0
      have x1 := fun z : Cl wr.heap.size wr => Cl.old hF z e1
      have x2 := fun z : Cl wr.heap.size wr => Cl.old hF z e2
      have x3 := fun z : Cl wr.heap.size wr => Cl.old hF z e3
      have x4 := fun z : Cl wr.heap.size wr => Cl.old hF z e4
      have oc := fun x : Cl _ wr => (Fb.cl hF x).own; simp only [World.size_alloc, World.size_drew, World.size_setCell, List.mem_cons, List.not_mem_nil, or_false, forall_eq_or_imp, forall_eq, At, and_true, Nat.zero_add, Nat.reduceAdd, List.set_cons_zero, List.set_cons_succ] at oc
      clear e0 e1 e2 e3 e4
      have hlt0 : True := trivial
      by_cases i1 : pb = sb
      · have j1 : (pb == sb) = true := by simp [i1]
        by_cases i2 : pt = st
        · have j2 : (pt == st) = true := by simp [i2]
          by_cases i3 : pf = sf ∧ pn = sn
          · have j3 : ∀ w, (binOp .eql 25 (.agg #[.int .i64 pf, .int .i64 pn]) (.agg #[.int .i64 sf, .int .i64 sn])).run Tryd.prog w = .ok (.bool true) w := fun w => by rw [rng_eql]; simp [i3]
            obtain ⟨z, hz⟩ : ∃ z, pcmp pp sp = z := ⟨_, rfl⟩
            have hC := Lib.hid (fun (y : Cl wr.heap.size wr) => (show Calls Tryd.prog 58 #[.slice a1 m1 k1, .slice a2 m2 k2] y.W fun e w' => e = .returned (.int .i64 z) ∧ Below y.W.heap.size y.W w' from by have := l3Cmp_any _ _ pp sp y.W (HG.out y).1 (HG.out y).2; rwa [hz] at this))
            by_cases i4 : pp = sp
            · have hz0 : z = 0 := hz.symm.trans (pcmp_0.2 i4)
              subst hz0
              have hd : Hid (decide ((sb, st, sf, sn, sp) ∈ L) = true) := decide_eq_true (by
                have := List.mem_of_getElem? HP.out
                rw [i1, i2, i3.1, i3.2, i4] at this; exact this)
              clear i1 i2 i3 i4 hz
              go_wp2
              first | refine wp_region_new (by kernel_rfl) (by kernel_rfl) ?_ | refine wp_region_lex ?_
              repeat (any_goals (first | go_big_quiet_step (((go_at_call 58; exact Calls.cl (hC.out _)))) | (refine wpQuiet_step (fun K hK => ?_); go_simp; split <;> (rename_i hg; refine hK _ ?_; clear hK K; simp only [hg, decide_true, decide_false]))))
              all_goals (refine wpQuiet_nil ?_; intro x)
              go_wp2
              go_ret
              exact ⟨by rw [hd.out]; rfl, (hF.cl x).kp⟩
            · have j4 : (z == 0) = false := by
                have : z ≠ 0 := fun e => i4 (pcmp_0.1 (hz.trans e))
                simp [this]
              clear hz
              have ht2 := Lib.hid (nm_step ht.out HP.out (by simp only [Prod.mk.injEq]; (intro q; exact i4 q.2.2.2.2.symm)))
              clear hlt0
              go_wp2
              first | refine wp_region_new (by kernel_rfl) (by kernel_rfl) ?_ | refine wp_region_lex ?_
              repeat (any_goals (first | go_big_quiet_step (((go_at_call 58; exact Calls.cl (hC.out _)))) | (refine wpQuiet_step (fun K hK => ?_); go_simp; split <;> (rename_i hg; refine hK _ ?_; clear hK K; simp only [hg, decide_true, decide_false]))))
              all_goals (refine wpQuiet_nil ?_; intro x)
              go_wp2
              go_roundw
              case rel => exact ⟨k + 1, by omega, by go_num, ht2, hF.cl x⟩
              case measure => simp [intOf]; omega
          · have j3 : ∀ w, (binOp .eql 25 (.agg #[.int .i64 pf, .int .i64 pn]) (.agg #[.int .i64 sf, .int .i64 sn])).run Tryd.prog w = .ok (.bool false) w := fun w => by
              rw [rng_eql]
              have : (pf == sf && pn == sn) = false := by
                rw [Bool.eq_false_iff]; intro g; simp at g; exact i3 g
              rw [this]
            have ht2 := Lib.hid (nm_step ht.out HP.out (by simp only [Prod.mk.injEq]; (intro q; exact i3 ⟨q.2.2.1.symm, q.2.2.2.1.symm⟩)))
            clear hlt0
            go_wp2
            first | refine wp_region_new (by kernel_rfl) (by kernel_rfl) ?_ | refine wp_region_lex ?_
            repeat (any_goals (first | go_big_quiet_step ((fail)) | (refine wpQuiet_step (fun K hK => ?_); go_simp; split <;> (rename_i hg; refine hK _ ?_; clear hK K; simp only [hg, decide_true, decide_false]))))
            all_goals (refine wpQuiet_nil ?_; intro x)
            go_wp2
            go_roundw
            case rel => exact ⟨k + 1, by omega, by go_num, ht2, hF.cl x⟩
            case measure => simp [intOf]; omega
        · have j2 : (pt == st) = false := by simp [i2]
          have ht2 := Lib.hid (nm_step ht.out HP.out (by simp only [Prod.mk.injEq]; (intro q; exact i2 q.2.1.symm)))
          clear hlt0
          go_wp2
          first | refine wp_region_new (by kernel_rfl) (by kernel_rfl) ?_ | refine wp_region_lex ?_
          repeat (any_goals (first | go_big_quiet_step ((fail)) | (refine wpQuiet_step (fun K hK => ?_); go_simp; split <;> (rename_i hg; refine hK _ ?_; clear hK K; simp only [hg, decide_true, decide_false]))))
          all_goals (refine wpQuiet_nil ?_; intro x)
          go_wp2
          go_roundw
          case rel => exact ⟨k + 1, by omega, by go_num, ht2, hF.cl x⟩
          case measure => simp [intOf]; omega
      · have j1 : (pb == sb) = false := by simp [i1]
        have ht2 := Lib.hid (nm_step ht.out HP.out (by simp only [Prod.mk.injEq]; (intro q; exact i1 q.1.symm)))
        clear hlt0
        go_wp2
        first | refine wp_region_new (by kernel_rfl) (by kernel_rfl) ?_ | refine wp_region_lex ?_
        repeat (any_goals (first | go_big_quiet_step ((fail)) | (refine wpQuiet_step (fun K hK => ?_); go_simp; split <;> (rename_i hg; refine hK _ ?_; clear hK K; simp only [hg, decide_true, decide_false]))))
        all_goals (refine wpQuiet_nil ?_; intro x)
        go_wp2
        go_roundw
        case rel => exact ⟨k + 1, by omega, by go_num, ht2, hF.cl x⟩
        case measure => simp [intOf]; omega
    · have hd : Hid (decide ((sb, st, sf, sn, sp) ∈ L) = false) := decide_eq_false (nm_end ht.out hn.out (by omega))
      go_wp2
      go_ret
      exact ⟨by rw [hd.out]; rfl, hF.kp⟩
set_option maxHeartbeats 1000000 in
theorem sSealHas_any (v pv : Value) (L : List Sl) (sb st sf sn : Int) (sp : List Int) (w : World) (h1 : Sls w v L) (h2 : Ints w pv sp) :
    Calls Tryd.prog 13 #[v, .agg #[.int .i64 sb, .int .i64 st, .int .i64 sf, .int .i64 sn, pv]] w fun e w' => e = .returned (.bool (decide ((sb, st, sf, sn, sp) ∈ L))) ∧ Below w.heap.size w w' := by
  obtain ⟨a2, m2, k2, rfl, -⟩ := Ints.sl h2
  have hF := (Fb.start w).alloc [.int .i64 sb, .int .i64 st, .int .i64 sf, .int .i64 sn, .slice a2 m2 k2] 28
  replace h1 := h1.below hF.kp
  replace h2 := Rows.below h2 hF.kp
  go_enter Tryd.func13, Tryd.ntmps13
  go_wp2_with fail
  refine (l13Has_any _ _ L sb st sf sn sp _ h1 h2).mono ?_; rintro e wx ⟨rfl, hbx⟩
  replace hF := hF.below hbx
  clear hbx h1 h2
  go_wp2
  go_ret
  exact ⟨rfl, hF.kp⟩
end Go.Proofs.YtiocomefkckbfaaDoor
