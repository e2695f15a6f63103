/- Paths: spec.PathOk, readTrail, impl.PathOk. Paths: impl.PathOk, PathHas both. cmp.Compare, cmp.Or. -/
import Derived.Test.YtonojegnbcgnaaaDoorZ5
import Derived.Test.YtonojegnbcgnaaaDoorZ3
set_option linter.unusedSimpArgs false
set_option linter.unusedVariables false
namespace Go.Proofs.YtonojegnbcgnaaaDoor
open Go.RowKit

theorem ints_take {w : World} {b off n c : Nat} {L : List Int} (h : Ints w (.slice (some ⟨b, off, none⟩) n c) L) {k : Nat} (hk : k ≤ n) (hc : n ≤ c) (hcc : c ≤ 9223372036854775807) : Ints w (.slice (some ⟨b, off, none⟩) k c) (L.take k) := by
  have := Rows.sub h (i := 0) (j := k) (c' := c) (by omega) hk (by omega) hcc
  simpa using this
theorem sPathOk_any (v : Value) (L : List Int) (w : World) (hv : Ints w v L) :
    Calls Tryd.prog 78 #[v] w fun e w' => e = .returned (.bool (decide (POk L))) ∧ Below w.heap.size w w' := by
  have hF := Fb.start w
  obtain ⟨n, cap, hn, hnc, hcap, ⟨hn0, ao, rfl⟩ | ⟨hn0, b0, off, rfl, hc⟩⟩ := hv.cases
  all_goals
    have HV := Lib.hid hv
    clear hv
    go_enter Tryd.func78, Tryd.ntmps78
    go_wp2
    go_loopw [3] (fun i wr => ∃ k : Nat, k ≤ n ∧ i = .int .i64 k ∧ Hid (POk (L.take k)) ∧ Fb w wr []) (fun i _ => n - (intOf i).toNat)
    case atStart => exact ⟨0, Nat.zero_le _, rfl, pok_nil, hF⟩
    case round =>
      clear hF
      obtain ⟨k, hk, rfl, hok, hF⟩ := hrel
      by_cases hlt : k < n
      · try (exfalso; omega)
        all_goals
          obtain ⟨x, hx⟩ := get_of hn.out hlt
          have HX := Lib.hid hx
          have c0 := fun z : Cl wr.heap.size wr => Cl.old hF z (hc.out k x hx)
          have hsub := Lib.hid (fun z : Cl wr.heap.size wr => (show Ints z.W (.slice (some ⟨b0, off, none⟩) k cap) (L.take k) from Rows.below (ints_take (Rows.below HV.out hF.kp) hk hnc hcap) z.below))
          clear hx
          by_cases d1 : Bts x 1 5
          · have e1 : decide (Bts x 1 5) = true := by simp [d1]
            by_cases d2 : x ∈ L.take k
            · have e2 : decide (x ∈ L.take k) = true := by simp [d2]
              have hp := Lib.hid (pok_bad HX.out (fun g => g.2 d2))
              clear d1 d2
              go_wp2
              first | refine wp_region_new (by kernel_rfl) (by kernel_rfl) ?_ | refine wp_region_lex ?_
              repeat (any_goals (first | go_big_quiet_step ((first | (go_at_call 64; exact Calls.cl (l3House_any _ _)) | (go_at_call 94; exact Calls.cl (l3Has_any _ _ _ _ (hsub.out _))))) | (refine wpQuiet_step (fun K hK => ?_); go_simp; split <;> (rename_i hg; refine hK _ ?_; clear hK K; simp only [hg, decide_true, decide_false]))))
              all_goals (refine wpQuiet_nil ?_; intro x)
              go_wp2
              go_ret
              exact ⟨by rw [hp.out]; rfl, (hF.cl x).kp⟩
            · have e2 : decide (x ∈ L.take k) = false := by simp [d2]
              have hp : Hid (POk (L.take (k + 1))) := (pok_step HX.out).2 ⟨hok.out, d1, d2⟩
              clear d1 d2
              go_wp2
              first | refine wp_region_new (by kernel_rfl) (by kernel_rfl) ?_ | refine wp_region_lex ?_
              repeat (any_goals (first | go_big_quiet_step ((first | (go_at_call 64; exact Calls.cl (l3House_any _ _)) | (go_at_call 94; exact Calls.cl (l3Has_any _ _ _ _ (hsub.out _))))) | (refine wpQuiet_step (fun K hK => ?_); go_simp; split <;> (rename_i hg; refine hK _ ?_; clear hK K; simp only [hg, decide_true, decide_false]))))
              all_goals (refine wpQuiet_nil ?_; intro x)
              go_wp2
              go_roundw
              case rel => exact ⟨k + 1, by omega, by go_num, hp, hF.cl x⟩
              case measure => simp [intOf]; omega
          · have e1 : decide (Bts x 1 5) = false := by simp [d1]
            have hp := Lib.hid (pok_bad HX.out (fun g => d1 g.1))
            clear d1
            go_wp2
            first | refine wp_region_new (by kernel_rfl) (by kernel_rfl) ?_ | refine wp_region_lex ?_
            repeat (any_goals (first | go_big_quiet_step ((first | (go_at_call 64; exact Calls.cl (l3House_any _ _)) | (go_at_call 94; exact Calls.cl (l3Has_any _ _ _ _ (hsub.out _))))) | (refine wpQuiet_step (fun K hK => ?_); go_simp; split <;> (rename_i hg; refine hK _ ?_; clear hK K; simp only [hg, decide_true, decide_false]))))
            all_goals (refine wpQuiet_nil ?_; intro x)
            go_wp2
            go_ret
            exact ⟨by rw [hp.out]; rfl, (hF.cl x).kp⟩
      · have hp : Hid (decide (POk L) = true) := by
          have := hok.out
          rw [List.take_of_length_le (by rw [hn.out]; omega)] at this
          exact decide_eq_true this
        go_wp2
        go_ret
        exact ⟨by rw [hp.out]; rfl, hF.kp⟩

/-- errPath, as the program's start lays it. -/
def EPath (w : World) (a : Addr) : Prop := w.cell? ⟨0, 0, none⟩ = some (.iface 147 (.pointer (some a)))
theorem EPath.below {w w' : World} {a : Addr} (h : EPath w a) (hb : Below w.heap.size w w') : EPath w' a := (hb.cell (World.block_lt_of_cell? _ _ h)).trans h
theorem EPath.old {w W : World} {a : Addr} {Ls : List (Nat × List Value)} (h : EPath w a) (hF : Fb w W Ls) : W.cell? ⟨0, 0, none⟩ = some (.iface 147 (.pointer (some a))) := hF.old h
theorem EPath.allocd {w : World} {a : Addr} (h : EPath w a) (o : Obj) : (w.alloc o).cell? ⟨0, 0, none⟩ = some (.iface 147 (.pointer (some a))) := h.below ((Below.refl _ _).alloc (Nat.le_refl _) o)
/-- An error that joins errPath and another one. -/
def Joined (w : World) (a : Addr) (v : Value) : Prop := ∃ pb g n c, v = .iface 144 (.pointer (some ⟨pb, 0, none⟩)) ∧ 0 < n ∧ w.cell? ⟨pb, 0, none⟩ = some (.slice (some ⟨g, 0, none⟩) n c) ∧ w.cell? ⟨g, 0, none⟩ = some (.iface 147 (.pointer (some a)))
theorem addM_enc (a b c d e : Bool) : bits .or .u64 (encB a b c d e) 2 = encB true b c d e ∧ bits .or .u64 (encB a b c d e) 4 = encB a true c d e ∧ bits .or .u64 (encB a b c d e) 8 = encB a b true d e ∧ bits .or .u64 (encB a b c d e) 16 = encB a b c true e ∧ bits .or .u64 (encB a b c d e) 32 = encB a b c d true := by
  cases a <;> cases b <;> cases c <;> cases d <;> cases e <;> (refine ⟨?_, ?_, ?_, ?_, ?_⟩ <;> kernel_rfl)
theorem Fb.swap {W w : World} {p q : Nat × List Value} {L : List (Nat × List Value)} (h : Fb W w (p :: q :: L)) : Fb W w (q :: p :: L) := h.sub fun x hx => by
  simp only [List.mem_cons] at hx ⊢
  rcases hx with h | h | h
  · exact Or.inr (Or.inl h)
  · exact Or.inl h
  · exact Or.inr (Or.inr h)
theorem five {x : Int} (h : Bts x 1 5) : x = 1 ∨ x = 2 ∨ x = 3 ∨ x = 4 ∨ x = 5 := by unfold Bts at h; omega
theorem shl_add (K : List Int) {x : Int} (hx : Bts x 1 5) : ∃ p : Int, (∀ w, (Op.shift .shl .u64 1 .i64 x).run Tryd.prog w = .ok (.int .u64 p) w) ∧ bits .or .u64 (msk K) p = msk (K ++ [x]) := by
  obtain ⟨e1, e2, e3, e4, e5⟩ := addM_enc (decide (1 ∈ K)) (decide (2 ∈ K)) (decide (3 ∈ K)) (decide (4 ∈ K)) (decide (5 ∈ K))
  rcases five hx with rfl | rfl | rfl | rfl | rfl
  · exact ⟨2, fun w => by kernel_rfl, by unfold msk; rw [e1]; simp⟩
  · exact ⟨4, fun w => by kernel_rfl, by unfold msk; rw [e2]; simp⟩
  · exact ⟨8, fun w => by kernel_rfl, by unfold msk; rw [e3]; simp⟩
  · exact ⟨16, fun w => by kernel_rfl, by unfold msk; rw [e4]; simp⟩
  · exact ⟨32, fun w => by kernel_rfl, by unfold msk; rw [e5]; simp⟩
theorem Join_lit (w : World) (o : Obj) (u0 u1 : Value) :
    Calls Tryd.prog 110 #[.slice (some ⟨w.heap.size + 1, 0, none⟩) 2 2] ((w.alloc o).alloc (.cells #[.iface 147 u0, .iface 147 u1] 116)).drew fun e w' => ∃ pb g2 n c, e = .returned (.iface 144 (.pointer (some ⟨pb, 0, none⟩))) ∧ 0 < n ∧ w'.cell? ⟨pb, 0, none⟩ = some (.slice (some ⟨g2, 0, none⟩) n c) ∧ w'.cell? ⟨g2, 0, none⟩ = some (.iface 147 u0) ∧ Below ((w.alloc o).alloc (.cells #[.iface 147 u0, .iface 147 u1] 116)).drew.heap.size ((w.alloc o).alloc (.cells #[.iface 147 u0, .iface 147 u1] 116)).drew w' := by
  have h0 := cell_new2a (w.alloc o) (.iface 147 u0) (.iface 147 u1) 116
  have h1 := cell_new2b (w.alloc o) (.iface 147 u0) (.iface 147 u1) 116
  rw [World.size_alloc] at h0 h1
  exact Join_any _ u0 u1 _ h0 h1
set_option maxHeartbeats 2000000 in
theorem readTrail_any (v : Value) (L : List Int) (a : Addr) (w : World) (hv : Ints w v L) (hE : EPath w a) :
    Calls Tryd.prog 91 #[v] w fun e w' => (POk L ∧ e = .returned (.tuple #[.agg #[.int .u64 (msk L), v], .nilIface]) ∨ ¬ POk L ∧ ∃ u, e = .returned (.tuple #[.agg #[.int .u64 0, .slice none 0 0], u]) ∧ Joined w' a u) ∧ Below w.heap.size w w' := by
  have hF := ((Fb.start w).alloc [.int .u64 0, .slice none 0 0] 114).alloc [.int .u64 0, v] 114
  simp only [World.size_alloc] at hF
  obtain ⟨n, cap, hn, hnc, hcap, ⟨hn0, ao, rfl⟩ | ⟨hn0, b0, off, rfl, hc⟩⟩ := hv.cases
  all_goals
    have HV := Lib.hid hv
    have HE := Lib.hid hE
    clear hv hE
    go_enter Tryd.func91, Tryd.ntmps91
    go_wp2
    go_loopw [5, 6, 11] (fun s5 s6 s11 wr => ∃ k : Nat, k ≤ n ∧ s11 = .int .i64 k ∧ Hid (POk (L.take k)) ∧ Fb w wr [(w.heap.size + 1, [.int .u64 (msk (L.take k)), _]), (w.heap.size, [.int .u64 0, .slice none 0 0])]) (fun _ _ s11 _ => n - (intOf s11).toNat)
    case atStart => exact ⟨0, Nat.zero_le _, rfl, pok_nil, hF⟩
    case round =>
      clear hF
      obtain ⟨k, hk, rfl, hok, hF⟩ := hrel
      by_cases hlt : k < n
      · try (exfalso; omega)
        all_goals
          obtain ⟨x, hx⟩ := get_of hn.out hlt
          have HX := Lib.hid hx
          have c0 := hF.old (hc.out k x hx)
          have o := hF.own; simp only [World.size_alloc, World.size_drew, World.size_setCell, List.mem_cons, List.not_mem_nil, or_false, forall_eq_or_imp, forall_eq, At, and_true, Nat.zero_add, Nat.reduceAdd, List.set_cons_zero, List.set_cons_succ] at o
          clear hx
          by_cases d1 : Bts x 1 5
          · have e1 : decide (Bts x 1 5) = true := by simp [d1]
            by_cases d2 : x ∈ L.take k
            · have e2 : decide (Bts x 1 5 ∧ x ∈ L.take k) = true := by simp [d1, d2]
              have hp : Hid (¬ POk L) := fun g => ((pok_step HX.out).1 (pok_take g (k + 1))).2.2 d2
              clear d1 d2
              go_wp2_with (first | (go_at_call 63; go_must (refine (isHouse_any _ _).mono ?_); rintro e wx ⟨rfl, hbx⟩; replace hF := Fb.below (by repeat (first | assumption | apply Fb.alloc_1 | apply Fb.alloc_2 | apply Fb.alloc_3 | apply Fb.alloc_4 | apply Fb.alloc_5 | apply Fb.alloc_8 | apply Fb.drew | apply Fb.drewN | apply Fb.other)) hbx; clear hbx; (try clear o); have o := hF.own; simp only [World.size_alloc, World.size_drew, World.size_setCell, List.mem_cons, List.not_mem_nil, or_false, forall_eq_or_imp, forall_eq, At, and_true, Nat.zero_add, Nat.reduceAdd, List.set_cons_zero, List.set_cons_succ] at o) | (go_at_call 109; go_must (refine (has_any (L.take k) _ _ _).mono ?_); rintro e wx ⟨rfl, hbx⟩; replace hF := Fb.below (by repeat (first | assumption | apply Fb.alloc_1 | apply Fb.alloc_2 | apply Fb.alloc_3 | apply Fb.alloc_4 | apply Fb.alloc_5 | apply Fb.alloc_8 | apply Fb.drew | apply Fb.drewN | apply Fb.other)) hbx; clear hbx; (try clear o); have o := hF.own; simp only [World.size_alloc, World.size_drew, World.size_setCell, List.mem_cons, List.not_mem_nil, or_false, forall_eq_or_imp, forall_eq, At, and_true, Nat.zero_add, Nat.reduceAdd, List.set_cons_zero, List.set_cons_succ] at o))
              have hk10 : k < 10 := by have h1 := pok_len hok.out; rw [List.length_take] at h1; have := hn.out; omega
              have hE := EPath.old HE.out hF
              have hEa := EPath.allocd (HE.out.below hF.kp)
              go_region_with (first | (go_at_call 112; refine (Itoa_ex k hk10 _).mono ?_; rintro e wy ⟨ss, hss, rfl, rfl⟩; have hsl : ByteArray.size (⟨#[97, 116, 32]⟩ ++ ss) ≤ 13 := (by rw [ByteArray.size_append]; show 3 + _ ≤ _; omega)) | (go_at_call 111; refine (New_any _ _).mono ?_; rintro e wy ⟨rfl, rfl⟩) | (go_at_call 110; refine (Join_lit wx _ _ _).mono ?_; rintro e wy ⟨pb, g2, nn, cc, rfl, hnn, hj1, hj2, hbj⟩; replace hF := ((hF.other _).other _).drew.below hbj; clear o hE hEa; have o := hF.own; simp only [World.size_alloc, World.size_drew, World.size_setCell, List.mem_cons, List.not_mem_nil, or_false, forall_eq_or_imp, forall_eq, At, and_true, Nat.zero_add, Nat.reduceAdd, List.set_cons_zero, List.set_cons_succ] at o))
              all_goals
                have hpb : pb ≠ w.heap.size := fun e => by rw [e, o.2.1.1] at hj1; cases hj1
                have hg2 : g2 ≠ w.heap.size := fun e => by rw [e, o.2.1.1] at hj2; cases hj2
                have j1 := (World.cell?_setCell_other (wy.setCell ⟨w.heap.size, 0, none⟩ (.int .u64 0)) ⟨w.heap.size, 1, none⟩ ⟨pb, 0, none⟩ (.slice none 0 0) (by intro e; injection e; first | contradiction | omega)).trans ((World.cell?_setCell_other wy ⟨w.heap.size, 0, none⟩ ⟨pb, 0, none⟩ (.int .u64 0) (by intro e; injection e; first | contradiction | omega)).trans hj1)
                have j2 := (World.cell?_setCell_other (wy.setCell ⟨w.heap.size, 0, none⟩ (.int .u64 0)) ⟨w.heap.size, 1, none⟩ ⟨g2, 0, none⟩ (.slice none 0 0) (by intro e; injection e; first | contradiction | omega)).trans ((World.cell?_setCell_other wy ⟨w.heap.size, 0, none⟩ ⟨g2, 0, none⟩ (.int .u64 0) (by intro e; injection e; first | contradiction | omega)).trans hj2)
                have q1 := hF.swap.set 0 (.int .u64 0) (by simp) (by simp)
                have q2 := q1.set 1 (.slice none 0 0) (by simp) (by simp)
                have o5 := q2.own
                simp only [List.mem_cons, List.not_mem_nil, or_false, forall_eq_or_imp, forall_eq, At, and_true, Nat.zero_add, Nat.reduceAdd, List.set_cons_zero, List.set_cons_succ] at o5
                go_wp2
                exact bodyPost_ret (v := .tuple #[.agg #[.int .u64 0, .slice none 0 0], .iface 144 (.pointer (some ⟨pb, 0, none⟩))]) (by simp [results, Tryd.results91, go_sem, o5]) rfl ⟨Or.inr ⟨hp.out, _, rfl, pb, g2, nn, cc, rfl, hnn, j1, j2⟩, q2.kp⟩
            · have e2 : decide (Bts x 1 5 ∧ x ∈ L.take k) = false := by simp [d2]
              have hp : Hid (POk (L.take (k + 1))) := (pok_step HX.out).2 ⟨hok.out, d1, d2⟩
              obtain ⟨p, hsh, hor⟩ := shl_add (L.take k) d1
              rw [← take_snoc HX.out] at hor
              clear d1 d2
              go_wp2_with (first | (go_at_call 63; go_must (refine (isHouse_any _ _).mono ?_); rintro e wx ⟨rfl, hbx⟩; replace hF := Fb.below (by repeat (first | assumption | apply Fb.alloc_1 | apply Fb.alloc_2 | apply Fb.alloc_3 | apply Fb.alloc_4 | apply Fb.alloc_5 | apply Fb.alloc_8 | apply Fb.drew | apply Fb.drewN | apply Fb.other)) hbx; clear hbx; (try clear o); have o := hF.own; simp only [World.size_alloc, World.size_drew, World.size_setCell, List.mem_cons, List.not_mem_nil, or_false, forall_eq_or_imp, forall_eq, At, and_true, Nat.zero_add, Nat.reduceAdd, List.set_cons_zero, List.set_cons_succ] at o) | (go_at_call 109; go_must (refine (has_any (L.take k) _ _ _).mono ?_); rintro e wx ⟨rfl, hbx⟩; replace hF := Fb.below (by repeat (first | assumption | apply Fb.alloc_1 | apply Fb.alloc_2 | apply Fb.alloc_3 | apply Fb.alloc_4 | apply Fb.alloc_5 | apply Fb.alloc_8 | apply Fb.drew | apply Fb.drewN | apply Fb.other)) hbx; clear hbx; (try clear o); have o := hF.own; simp only [World.size_alloc, World.size_drew, World.size_setCell, List.mem_cons, List.not_mem_nil, or_false, forall_eq_or_imp, forall_eq, At, and_true, Nat.zero_add, Nat.reduceAdd, List.set_cons_zero, List.set_cons_succ] at o))
              go_region
              go_wp2
              go_roundw
              case rel => exact ⟨k + 1, by omega, by go_num, hp, (hF.set 0 _ (by simp) (by simp)).drew⟩
              case measure => simp [intOf]; omega
          · have e1 : decide (Bts x 1 5) = false := by simp [d1]
            have hp : Hid (¬ POk L) := fun g => d1 ((pok_step HX.out).1 (pok_take g (k + 1))).2.1
            clear d1
            go_wp2_with (first | (go_at_call 63; go_must (refine (isHouse_any _ _).mono ?_); rintro e wx ⟨rfl, hbx⟩; replace hF := Fb.below (by repeat (first | assumption | apply Fb.alloc_1 | apply Fb.alloc_2 | apply Fb.alloc_3 | apply Fb.alloc_4 | apply Fb.alloc_5 | apply Fb.alloc_8 | apply Fb.drew | apply Fb.drewN | apply Fb.other)) hbx; clear hbx; (try clear o); have o := hF.own; simp only [World.size_alloc, World.size_drew, World.size_setCell, List.mem_cons, List.not_mem_nil, or_false, forall_eq_or_imp, forall_eq, At, and_true, Nat.zero_add, Nat.reduceAdd, List.set_cons_zero, List.set_cons_succ] at o))
            have hk10 : k < 10 := by have h1 := pok_len hok.out; rw [List.length_take] at h1; have := hn.out; omega
            have hE := EPath.old HE.out hF
            have hEa := EPath.allocd (HE.out.below hF.kp)
            go_region_with (first | (go_at_call 112; refine (Itoa_ex k hk10 _).mono ?_; rintro e wy ⟨ss, hss, rfl, rfl⟩; have hsl : ByteArray.size (⟨#[97, 116, 32]⟩ ++ ss) ≤ 13 := (by rw [ByteArray.size_append]; show 3 + _ ≤ _; omega)) | (go_at_call 111; refine (New_any _ _).mono ?_; rintro e wy ⟨rfl, rfl⟩) | (go_at_call 110; refine (Join_lit wx _ _ _).mono ?_; rintro e wy ⟨pb, g2, nn, cc, rfl, hnn, hj1, hj2, hbj⟩; replace hF := ((hF.other _).other _).drew.below hbj; clear o hE hEa; have o := hF.own; simp only [World.size_alloc, World.size_drew, World.size_setCell, List.mem_cons, List.not_mem_nil, or_false, forall_eq_or_imp, forall_eq, At, and_true, Nat.zero_add, Nat.reduceAdd, List.set_cons_zero, List.set_cons_succ] at o))
            all_goals
              have hpb : pb ≠ w.heap.size := fun e => by rw [e, o.2.1.1] at hj1; cases hj1
              have hg2 : g2 ≠ w.heap.size := fun e => by rw [e, o.2.1.1] at hj2; cases hj2
              have j1 := (World.cell?_setCell_other (wy.setCell ⟨w.heap.size, 0, none⟩ (.int .u64 0)) ⟨w.heap.size, 1, none⟩ ⟨pb, 0, none⟩ (.slice none 0 0) (by intro e; injection e; first | contradiction | omega)).trans ((World.cell?_setCell_other wy ⟨w.heap.size, 0, none⟩ ⟨pb, 0, none⟩ (.int .u64 0) (by intro e; injection e; first | contradiction | omega)).trans hj1)
              have j2 := (World.cell?_setCell_other (wy.setCell ⟨w.heap.size, 0, none⟩ (.int .u64 0)) ⟨w.heap.size, 1, none⟩ ⟨g2, 0, none⟩ (.slice none 0 0) (by intro e; injection e; first | contradiction | omega)).trans ((World.cell?_setCell_other wy ⟨w.heap.size, 0, none⟩ ⟨g2, 0, none⟩ (.int .u64 0) (by intro e; injection e; first | contradiction | omega)).trans hj2)
              have q1 := hF.swap.set 0 (.int .u64 0) (by simp) (by simp)
              have q2 := q1.set 1 (.slice none 0 0) (by simp) (by simp)
              have o5 := q2.own
              simp only [List.mem_cons, List.not_mem_nil, or_false, forall_eq_or_imp, forall_eq, At, and_true, Nat.zero_add, Nat.reduceAdd, List.set_cons_zero, List.set_cons_succ] at o5
              go_wp2
              exact bodyPost_ret (v := .tuple #[.agg #[.int .u64 0, .slice none 0 0], .iface 144 (.pointer (some ⟨pb, 0, none⟩))]) (by simp [results, Tryd.results91, go_sem, o5]) rfl ⟨Or.inr ⟨hp.out, _, rfl, pb, g2, nn, cc, rfl, hnn, j1, j2⟩, q2.kp⟩
      · have hp : Hid (POk L) := by
          have := hok.out
          rwa [List.take_of_length_le (by rw [hn.out]; omega)] at this
        have hm : Hid (msk (L.take k) = msk L) := by show _ = _; rw [List.take_of_length_le (by rw [hn.out]; omega)]
        have o := hF.own; simp only [World.size_alloc, World.size_drew, World.size_setCell, List.mem_cons, List.not_mem_nil, or_false, forall_eq_or_imp, forall_eq, At, and_true, Nat.zero_add, Nat.reduceAdd, List.set_cons_zero, List.set_cons_succ] at o
        rw [hm.out] at o
        go_wp2
        have g1 := hF.swap.set 0 (.int .u64 (msk L)) (by simp) (by simp)
        first | (have g2 := g1.set 1 (.slice ao n cap) (by simp) (by simp); have o5 := g2.own; simp only [List.mem_cons, List.not_mem_nil, or_false, forall_eq_or_imp, forall_eq, At, and_true, Nat.zero_add, Nat.reduceAdd, List.set_cons_zero, List.set_cons_succ] at o5; exact bodyPost_ret (v := .tuple #[.agg #[.int .u64 (msk L), (.slice ao n cap)], .nilIface]) (by simp [results, Tryd.results91, go_sem, o5]) rfl ⟨Or.inl ⟨hp.out, rfl⟩, g2.kp⟩) | (have g2 := g1.set 1 (.slice (some ⟨b0, off, none⟩) n cap) (by simp) (by simp); have o5 := g2.own; simp only [List.mem_cons, List.not_mem_nil, or_false, forall_eq_or_imp, forall_eq, At, and_true, Nat.zero_add, Nat.reduceAdd, List.set_cons_zero, List.set_cons_succ] at o5; exact bodyPost_ret (v := .tuple #[.agg #[.int .u64 (msk L), (.slice (some ⟨b0, off, none⟩) n cap)], .nilIface]) (by simp [results, Tryd.results91, go_sem, o5]) rfl ⟨Or.inl ⟨hp.out, rfl⟩, g2.kp⟩)
end Go.Proofs.YtonojegnbcgnaaaDoor
set_option linter.unusedSimpArgs false
set_option linter.unusedVariables false
namespace Go.Proofs.YtonojegnbcgnaaaDoor
open Go.RowKit

theorem Joined.below {w w' : World} {a : Addr} {u : Value} (h : Joined w a u) (hb : Below w.heap.size w w') : Joined w' a u := by
  obtain ⟨pb, g, n, c, e, hn, h1, h2⟩ := h
  exact ⟨pb, g, n, c, e, hn, (hb.cell (World.block_lt_of_cell? _ _ h1)).trans h1, (hb.cell (World.block_lt_of_cell? _ _ h2)).trans h2⟩
theorem is_joined (u : Value) (a : Addr) (w : World) (h : Joined w a u) :
    Calls Tryd.prog 92 #[u, .iface 147 (.pointer (some a))] w fun e w' => e = .returned (.bool true) ∧ w' = w := by
  obtain ⟨pb, g, n, c, rfl, hn, h1, h2⟩ := h
  exact is_join pb g n c a w hn h1 h2
theorem iPathOk_any (v : Value) (L : List Int) (a : Addr) (w : World) (hv : Ints w v L) (hE : EPath w a) :
    Calls Tryd.prog 57 #[v] w fun e w' => e = .returned (.bool (decide (POk L))) ∧ Below w.heap.size w w' := by
  have HE := Lib.hid hE
  obtain ⟨ao, cap, rfl, -⟩ := hv.ex
  go_enter Tryd.func57, Tryd.ntmps57
  go_wp2_with fail
  refine (readTrail_any _ L a _ hv hE).mono ?_; rintro e w1 ⟨⟨hp, rfl⟩ | ⟨hp, u, rfl, hJ⟩, hb1⟩
  all_goals
    clear hE hv
    have hEa := EPath.allocd (HE.out.below hb1)
  · have d : decide (POk L) = true := decide_eq_true hp
    clear hp
    go_wp2_with (go_at_call 92; refine (is_nil _ _).mono ?_; rintro e w2 ⟨rfl, rfl⟩)
    go_ret
    exact ⟨by rw [d]; rfl, hb1.alloc hb1.size _⟩
  · have d : decide (POk L) = false := decide_eq_false hp
    have hJa := fun o => hJ.below ((Below.refl _ _).alloc (Nat.le_refl _) o)
    clear hp
    go_wp2_with (go_at_call 92; refine (is_joined _ _ _ (hJa _)).mono ?_; rintro e w2 ⟨rfl, rfl⟩)
    go_ret
    exact ⟨by rw [d]; rfl, hb1.alloc hb1.size _⟩
/-- A house is on a path. -/
def Has (L : List Int) (h : Int) : Prop := POk L ∧ h ∈ L
instance (L : List Int) (h : Int) : Decidable (Has L h) := by unfold Has; infer_instance
end Go.Proofs.YtonojegnbcgnaaaDoor
set_option linter.unusedSimpArgs false
set_option linter.unusedVariables false
namespace Go.Proofs.YtonojegnbcgnaaaDoor
open Go.RowKit

/-- Of two numbers: which is less. -/
def icmp (a b : Int) : Int := if a < b then -1 else if b < a then 1 else 0
theorem icmp_bd (a b : Int) : -1 ≤ icmp a b ∧ icmp a b ≤ 1 := by unfold icmp; split <;> (try split) <;> omega
theorem isNaN_any (a : Int) (w : World) : Calls Tryd.prog 88 #[.int .i64 a] w fun e w' => e = .returned (.bool false) ∧ w = w' := by
  go_enter Tryd.func88, Tryd.ntmps88
  go_wp2
  go_ret
  exact ⟨by simp, rfl⟩
theorem compare_any (a b : Int) (w : World) : Calls Tryd.prog 52 #[.int .i64 a, .int .i64 b] w fun e w' => e = .returned (.int .i64 (icmp a b)) ∧ w = w' := by
  rcases Int.lt_trichotomy a b with h | rfl | h
  · have e : icmp a b = -1 := by simp [icmp, h]
    rw [e]; clear e
    go_enter Tryd.func52, Tryd.ntmps52
    go_wp2_with (go_at_call 88; refine (isNaN_any _ _).mono ?_; rintro e w' ⟨rfl, rfl⟩)
    go_ret
    exact ⟨rfl, rfl⟩
  · have e : icmp a a = 0 := by simp [icmp]
    rw [e]; clear e
    go_enter Tryd.func52, Tryd.ntmps52
    go_wp2_with (go_at_call 88; refine (isNaN_any _ _).mono ?_; rintro e w' ⟨rfl, rfl⟩)
    go_ret
    exact ⟨rfl, rfl⟩
  · have e : icmp a b = 1 := by unfold icmp; rw [if_neg (by omega), if_pos h]
    have h2 : ¬ a < b := by omega
    rw [e]; clear e
    go_enter Tryd.func52, Tryd.ntmps52
    go_wp2_with (go_at_call 88; refine (isNaN_any _ _).mono ?_; rintro e w' ⟨rfl, rfl⟩)
    go_ret
    exact ⟨rfl, rfl⟩
/-- The first that is not nought. -/
def orI (zs : List Int) : Int := (zs.find? (· != 0)).getD 0
theorem orI_at (zs : List Int) : ∀ k, (∀ i, i < k → zs.getD i 0 = 0) → (k < zs.length → zs.getD k 0 ≠ 0) → orI zs = zs.getD k 0 := by
  induction zs with
  | nil => intro k _ _; simp [orI]
  | cons z zs ih =>
    intro k h0 h1
    cases k with
    | zero => have := h1 (by simp); simp at this; simp [orI, List.find?_cons, this]
    | succ k =>
      have e : z = 0 := by simpa using h0 0 (by omega)
      have := ih k (fun i hi => by simpa using h0 (i + 1) (by omega)) (fun hk => by simpa using h1 (by simpa using hk))
      simpa [orI, List.find?_cons, e] using this
theorem orI_nil : orI [] = 0 := rfl
theorem orI_cons (z : Int) (zs : List Int) : orI (z :: zs) = if z = 0 then orI zs else z := by
  by_cases h : z = 0
  · simp [orI, List.find?_cons, h]
  · have : (z != 0) = true := by simpa using h
    simp [orI, List.find?_cons, this, h]
theorem or_any (b off cap : Nat) (zs : List Int) (w : World) (hc : ∀ i : Nat, i < zs.length → w.cell? ⟨b, off + i, none⟩ = some (.int .i64 (zs.getD i 0))) (hn : zs.length ≤ 1000000) :
    Calls Tryd.prog 51 #[.slice (some ⟨b, off, none⟩) zs.length cap] w fun e w' => e = .returned (.int .i64 (orI zs)) ∧ w = w' := by
  have hm := Lib.hid (orI_at zs)
  generalize hN : zs.length = N at *
  have HN := Lib.hid hN; clear hN
  go_enter Tryd.func51, Tryd.ntmps51
  go_wp2
  go_loop [8, 5] (fun i _ => ∃ k : Nat, k ≤ N ∧ i = .int .i64 k ∧ ∀ j, j < k → zs.getD j 0 = 0) (fun i _ => N - (intOf i).toNat)
  case atStart => exact ⟨0, Nat.zero_le _, rfl, fun j hj => by omega⟩
  case round =>
    obtain ⟨k, hk, rfl, hz⟩ := hrel
    have hz' := Lib.hid hz; clear hz
    have hcell : k < N → w.cell? ⟨b, off + k, none⟩ = some (.int .i64 (zs.getD k 0)) := hc k
    clear hc
    have HD : Hid (∃ z, z = zs.getD k 0) := ⟨_, rfl⟩
    obtain ⟨z, hz⟩ := HD.out
    rw [← hz] at hcell
    have HZ := Lib.hid hz; clear hz HD
    go_wp2
    · go_ret
      have h1 : (z != 0) = true := by assumption
      have h2 : k < N := by assumption
      refine ⟨ret_int ?_, rfl⟩
      rw [hm.out k hz'.out (fun _ => by rw [← HZ.out]; simpa using h1)]; exact HZ.out
    · have h1 : (z != 0) = false := by assumption
      have h2 : k < N := by assumption
      go_round
      case rel =>
        refine ⟨k + 1, by omega, by go_num, fun j hj => ?_⟩
        by_cases e : j = k
        · rw [e, ← HZ.out]; simpa using h1
        · exact hz'.out j (by omega)
      case measure => simp [intOf]; omega
    · go_ret
      refine ⟨ret_int ?_, rfl⟩
      have h2 : ¬ k < N := by assumption
      rw [hm.out k hz'.out (fun h => by omega)]
      have := HN.out
      simp [List.getD]; rw [List.getElem?_eq_none (by omega)]; rfl
end Go.Proofs.YtonojegnbcgnaaaDoor
