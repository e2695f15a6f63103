/- spec.DeltaCut: the walk. -/
import Derived.Test.YtjkfnjjkjhggfaaZ21
set_option linter.unusedSimpArgs false
set_option linter.unusedVariables false
namespace Go.Proofs.Ytjkfnjjkjhggfaa
open Go.RowKit

theorem infoDl : (Try.prog.info? 32).map (fun i => (i.zero, i.size, i.bytes)) = some (some (.agg #[.slice none 0 0, .slice none 0 0]), 2, 48) := by kernel_rfl
theorem Mid.cells {D : List Rg} {L : List Rt} {n1 m b0 b1 : Nat} {w : World} {g n c : Nat} {u t : Value} {ds : List LtD} {rds : List RtD} {Dc : List Rg} {Lc : List Rt} (h : Mid D L n1 w (.slice (some ⟨g, 0, none⟩) n c) ds m b0 b1 u t rds Dc Lc) {d : LtD} (hd : ds[m]? = some d) :
    w.cell? ⟨g, m * 2, none⟩ = some d.u ∧ w.cell? ⟨g, m * 2 + 1, none⟩ = some d.v ∧ w.frozen? ⟨g, m * 2, none⟩ = false ∧ w.frozen? ⟨g, m * 2 + 1, none⟩ = false ∧ g < w.heap.size ∧ n1 ≤ g := by
  have hr := h.out.rows (fun _ => rfl)
  have c0 := hr.get hd (j := 0) rfl
  have c1 := hr.get hd (j := 1) rfl
  rw [Nat.zero_add] at c0 c1
  obtain ⟨_, ⟨e1, _⟩ | ⟨g', cap, cur, e1, h2, h3, h4, h5, h6, h7⟩⟩ := h.out
  · cases e1
  · injection e1 with e1 e2 e3
    injection e1 with e1
    injection e1 with e1
    subst e1
    exact ⟨c0, c1, by unfold World.frozen?; simp [h3], by unfold World.frozen?; simp [h3], h.out.lt g rfl, h2⟩
/-- Where the loop of spec.DeltaCut stands, k items done. -/
def StC (D : List Rg) (L : List Rt) (n1 : Nat) (w : World) (v : Value) (k : Nat) : Prop := ∃ ds, (k % 3 = 0 ∧ OldC D L n1 w v ds (k / 3)) ∨ (k % 3 ≠ 0 ∧ ∃ b0 b1 u t rds, Mid D L n1 w v ds (k / 3) b0 b1 u t rds (cut D L (k / 3 * 3) k).1 (cut D L (k / 3 * 3) k).2 ∧ ds[k / 3]? = some ⟨u, t, rds⟩)
theorem StC.below {D : List Rg} {L : List Rt} {n1 k : Nat} {w w' : World} {v : Value} (h : StC D L n1 w v k) (K : Below w.heap.size w w') : StC D L n1 w' v k := by
  obtain ⟨ds, ⟨h1, h2⟩ | ⟨h1, b0, b1, u, t, rds, h2, h3⟩⟩ := h
  · exact ⟨ds, .inl ⟨h1, h2.below K⟩⟩
  · exact ⟨ds, .inr ⟨h1, b0, b1, u, t, rds, h2.below K, h3⟩⟩
/-- One item more. -/
theorem StC.next {D : List Rg} {L : List Rt} {n1 k b0 b1 : Nat} {w : World} {v u t : Value} {ds : List LtD} {rds : List RtD} (h : Mid D L n1 w v ds (k / 3) b0 b1 u t rds (cut D L (k / 3 * 3) (k + 1)).1 (cut D L (k / 3 * 3) (k + 1)).2) (hd : ds[k / 3]? = some ⟨u, t, rds⟩) : StC D L n1 w v (k + 1) := by
  by_cases hk : (k + 1) % 3 = 0
  · refine ⟨ds, .inl ⟨hk, ?_⟩⟩
    have := h.done hd (show (_, _) = cut D L (k / 3 * 3) (k / 3 * 3 + 3) by rw [show k / 3 * 3 + 3 = k + 1 by omega])
    rwa [show (k + 1) / 3 = k / 3 + 1 by omega]
  · refine ⟨ds, .inr ⟨hk, b0, b1, u, t, rds, ?_⟩⟩
    rw [show (k + 1) / 3 = k / 3 by omega]
    exact ⟨h, hd⟩
theorem OldC.lts {D : List Rg} {L : List Rt} {n1 m : Nat} {w : World} {v : Value} {ds : List LtD} (h : OldC D L n1 w v ds m) (hm : m = (D.length + L.length + 2) / 3) : Lts w v (pcs D L) := by
  refine ⟨ds, h.out.rows (fun _ => rfl), by rw [h.len, pcs_len, hm], fun k s hk => ?_⟩
  have hlt : k < (D.length + L.length + 2) / 3 := by rw [← pcs_len]; exact (List.getElem?_eq_some_iff.1 hk).1
  rw [pcs_at D L hlt] at hk
  injection hk with hk
  subst hk
  obtain ⟨d, a, b, _⟩ := h.old k (by omega)
  exact ⟨d, a, b⟩
theorem StC.lts {D : List Rg} {L : List Rt} {n1 k : Nat} {w : World} {v : Value} (h : StC D L n1 w v k) (hk : k = D.length + L.length) : Lts w v (pcs D L) := by
  obtain ⟨ds, ⟨h1, h2⟩ | ⟨h1, b0, b1, u, t, rds, h2, h3⟩⟩ := h
  · exact h2.lts (by omega)
  · refine (h2.done h3 ?_).lts (by omega)
    show cut D L _ _ = _
    unfold cut
    rw [seg_end D (b := k) (c := k / 3 * 3 + 3) (by omega) (by omega), seg_end L (b := k - D.length) (c := k / 3 * 3 + 3 - D.length) (by omega) (by omega)]
set_option maxRecDepth 100000 in
set_option maxHeartbeats 8000000 in
theorem sDeltaCut_any (s1 s2 : Value) (D : List Rg) (L : List Rt) (w : World) (hs1 : Rows w s1 2 encRg D) (hs2 : GLs shRi w s2 L) (hN : D.length + L.length ≤ 1000) (hsm : ∀ s ∈ L, SmRt s) :
    Calls Try.prog 18 #[.agg #[s1, s2]] w fun e w' => ∃ v, e = .returned v ∧ Lts w' v (pcs D L) ∧ Below w.heap.size w w' := by
  obtain ⟨N1, c1, hN1, -, -, hv1⟩ := hs1.cases
  obtain ⟨a1, rfl⟩ : ∃ a, s1 = .slice a N1 c1 := by rcases hv1 with ⟨_, a, e⟩ | ⟨_, b, o, e, _⟩ <;> exact ⟨_, e⟩
  obtain ⟨a2, N2, c2, rfl, hN2, -, -⟩ := GLs.sl hs2
  have HV := Lib.hid (And.intro hv1 hs2)
  have HSm := Lib.hid hsm
  rw [hN1.out, hN2.out] at hN
  clear hs1 hs2 hv1 hsm
  obtain ⟨n0, hn0⟩ : ∃ n0, w.heap.size = n0 := ⟨_, rfl⟩
  have hF := ((Fb.start w).alloc [.slice a1 N1 c1, .slice a2 N2 c2] 32).other (.cells #[] 32)
  have hS : StC D L (n0 + 1) ((w.alloc (.cells #[.slice a1 N1 c1, .slice a2 N2 c2] 32)).alloc (.cells #[] 32)) (.slice (some ⟨n0 + 1, 0, none⟩) 0 0) 0 := by
    have := Own.made (enc := encLt) (sz := 2) 32 (w.alloc (.cells #[.slice a1 N1 c1, .slice a2 N2 c2] 32)) (n0 + 1) (by simp [hn0])
    rw [World.size_alloc, hn0] at this
    exact ⟨[], .inl ⟨rfl, this, rfl, fun j hj => by omega⟩⟩
  have hsz : n0 + 1 < ((w.alloc (.cells #[.slice a1 N1 c1, .slice a2 N2 c2] 32)).alloc (.cells #[] 32)).heap.size := by simp [hn0]
  rw [hn0] at hF
  have o := hF.own; simp only [World.size_alloc, World.size_drew, World.size_setCell, List.mem_cons, List.not_mem_nil, or_false, forall_eq_or_imp, forall_eq, At, and_true, Nat.zero_add, Nat.reduceAdd, List.set_cons_zero, List.set_cons_succ] at o
  go_enter Try.func18, Try.ntmps18
  go_wp2
  go_loopw [3, 4] (fun s3 s4 wr => ∃ (k : Nat), s4 = .int .i64 (k : Int) ∧ k ≤ N1 + N2 ∧ n0 + 1 < wr.heap.size ∧ Hid (StC D L (n0 + 1) wr s3 k) ∧ Fb w wr [(n0, [.slice a1 N1 c1, .slice a2 N2 c2])]) (fun _ s4 _ => N1 + N2 - (intOf s4).toNat)
  case atStart => exact ⟨0, rfl, Nat.zero_le _, hsz, hS, hF⟩
  case round =>
    clear hF hS hsz o
    obtain ⟨k, rfl, hk, hsz, hS, hF⟩ := hrel
    have o := hF.own; simp only [World.size_alloc, World.size_drew, World.size_setCell, List.mem_cons, List.not_mem_nil, or_false, forall_eq_or_imp, forall_eq, At, and_true, Nat.zero_add, Nat.reduceAdd, List.set_cons_zero, List.set_cons_succ] at o
    go_wp2_with fail
    refine (sDeltaMany_any a1 a2 N1 c1 N2 c2 _ (by omega)).mono ?_; rintro e w3 ⟨rfl, hb3⟩
    replace hF := hF.below hb3
    replace hS := Lib.hid (hS.out.below hb3)
    have hz3 := hb3.size
    clear hb3 o
    have o := hF.own; simp only [World.size_alloc, World.size_drew, World.size_setCell, List.mem_cons, List.not_mem_nil, or_false, forall_eq_or_imp, forall_eq, At, and_true, Nat.zero_add, Nat.reduceAdd, List.set_cons_zero, List.set_cons_succ] at o
    obtain ⟨NN, hNN⟩ : ∃ NN : Nat, N1 + N2 = NN := ⟨_, rfl⟩
    rw [hNN] at hk ⊢
    by_cases hlt : k < NN
    · have hlt' : decide ((k : Int) < (NN : Int)) = true := decide_eq_true (by omega)
      have hrem : IntKind.i64.wrap ((k : Int).tmod 3) = (k : Int) % 3 := by
        rw [Int.tmod_eq_emod_of_nonneg (by omega), IntWalk.i64_in _ (by omega)]
      obtain ⟨b3, hb3⟩ : ∃ b3, ((k : Int) % 3 == 0) = b3 := ⟨_, rfl⟩
      have HB3 := Lib.hid hb3
      go_upto_if 15 with (fail)
      clear hb3
      go_cut [3] (fun s3 wx => ∃ (ds : List LtD) (b0 b1 : Nat) (u t : Value) (rds : List RtD), n0 + 1 < wx.heap.size ∧ Hid (Mid D L (n0 + 1) wx s3 ds (k / 3) b0 b1 u t rds (cut D L (k / 3 * 3) k).1 (cut D L (k / 3 * 3) k).2 ∧ ds[k / 3]? = some ⟨u, t, rds⟩) ∧ Fb w wx [(n0, [.slice a1 N1 c1, .slice a2 N2 c2])])
      case first =>
        cases b3 with
        | true =>
          have h3 : k % 3 = 0 := by have := HB3.out; simp at this; omega
          obtain ⟨ds, hO⟩ : ∃ ds, Hid (OldC D L (n0 + 1) w3 u3 ds (k / 3)) := by
            obtain ⟨ds, ⟨_, h⟩ | ⟨h, _⟩⟩ := hS.out
            · exact ⟨ds, h⟩
            · exact absurd h3 h
          clear hS
          go_wp2_with (at_builtin; have hOw := ((hO.out.out.alloc (.cells #[] 62)).alloc (.cells #[] 64)).alloc (.cells #[.slice (some ⟨w3.heap.size, 0, none⟩) 0 0, .slice (some ⟨w3.heap.size + 1, 0, none⟩) 0 0] 32); refine wpList_app rfl _ _ 35 rfl 32 (.agg #[.slice none 0 0, .slice none 0 0]) 2 48 Try.underlying35 infoDl rfl (by decide) (by decide) (n0 + 1) encLt _ ds rfl hOw (⟨.slice (some ⟨w3.heap.size, 0, none⟩) 0 0, .slice (some ⟨w3.heap.size + 1, 0, none⟩) 0 0, []⟩ : LtD) ⟨_, 0, none⟩ 1 rfl rfl (by have := cells_new ((w3.alloc (.cells #[] 62)).alloc (.cells #[] 64)) [.slice (some ⟨w3.heap.size, 0, none⟩) 0 0, .slice (some ⟨w3.heap.size + 1, 0, none⟩) 0 0] 32; simp only [World.size_alloc] at this; exact this) (by simp [encLt, Value.oneCell']) (by rw [hO.out.len]; omega) (by simp only [World.size_alloc]; omega) ?_; intro v' wx hO1 hg1 hb1 hf1)
          have K : Below w3.heap.size w3 (((w3.alloc (.cells #[] 62)).alloc (.cells #[] 64)).alloc (.cells #[.slice (some ⟨w3.heap.size, 0, none⟩) 0 0, .slice (some ⟨w3.heap.size + 1, 0, none⟩) 0 0] 32)) := (((Below.refl _ _).alloc (Nat.le_refl _) _).alloc (by simp) _).alloc (by simp; omega) _
          have h1 : Own 62 (((w3.alloc (.cells #[] 62)).alloc (.cells #[] 64)).alloc (.cells #[.slice (some ⟨w3.heap.size, 0, none⟩) 0 0, .slice (some ⟨w3.heap.size + 1, 0, none⟩) 0 0] 32)) w3.heap.size (.slice (some ⟨w3.heap.size, 0, none⟩) 0 0) 2 encRg [] := ((Own.made (enc := encRg) (sz := 2) 62 w3 w3.heap.size (Nat.le_refl _)).alloc _).alloc _
          have h2 : Own 64 (((w3.alloc (.cells #[] 62)).alloc (.cells #[] 64)).alloc (.cells #[.slice (some ⟨w3.heap.size, 0, none⟩) 0 0, .slice (some ⟨w3.heap.size + 1, 0, none⟩) 0 0] 32)) w3.heap.size (.slice (some ⟨w3.heap.size + 1, 0, none⟩) 0 0) 5 encRt [] := by
            have := Own.made (enc := encRt) (sz := 5) 64 (w3.alloc (.cells #[] 62)) w3.heap.size (by simp)
            rw [World.size_alloc] at this
            exact this.alloc _
          have hMd := hO.out.new (by omega) K hg1 h1 h2 hO1 hf1
          have hz9 := hg1.size
          simp only [World.size_alloc] at hz9
          replace hF := (hF.below K).grownQ hg1 (fun g hg => by have := hO.out.out.ge g hg; omega) (fun p hp e => by have := hO.out.out.ge _ e; simp only [List.mem_cons, List.not_mem_nil, or_false] at hp; subst hp; dsimp only at this; omega)
          have hM : Hid (Mid D L (n0 + 1) wx v' (ds ++ [⟨.slice (some ⟨w3.heap.size, 0, none⟩) 0 0, .slice (some ⟨w3.heap.size + 1, 0, none⟩) 0 0, []⟩]) (k / 3) w3.heap.size wx.heap.size (.slice (some ⟨w3.heap.size, 0, none⟩) 0 0) (.slice (some ⟨w3.heap.size + 1, 0, none⟩) 0 0) [] (cut D L (k / 3 * 3) k).1 (cut D L (k / 3 * 3) k).2 ∧ (ds ++ [⟨.slice (some ⟨w3.heap.size, 0, none⟩) 0 0, .slice (some ⟨w3.heap.size + 1, 0, none⟩) 0 0, []⟩])[k / 3]? = some ⟨.slice (some ⟨w3.heap.size, 0, none⟩) 0 0, .slice (some ⟨w3.heap.size + 1, 0, none⟩) 0 0, []⟩) := by
            rw [cut_nil D L (a := k / 3 * 3) (b := k) (by omega)]
            exact ⟨hMd, by rw [List.getElem?_append_right (by rw [hO.out.len]; omega), hO.out.len, Nat.sub_self]; rfl⟩
          clear h1 h2 hMd hO1 hg1 hf1 hb1 hOw K hO
          go_meet
          case rel => exact ⟨_, _, _, _, _, _, by omega, hM, hF⟩
        | false =>
          obtain ⟨ds, b0, b1, u, t, rds, hM⟩ : ∃ ds b0 b1 u t rds, Hid (Mid D L (n0 + 1) w3 u3 ds (k / 3) b0 b1 u t rds (cut D L (k / 3 * 3) k).1 (cut D L (k / 3 * 3) k).2 ∧ ds[k / 3]? = some ⟨u, t, rds⟩) := by
            obtain ⟨ds, ⟨h, _⟩ | ⟨_, b0, b1, u, t, rds, h1, h2⟩⟩ := hS.out
            · exfalso; have := HB3.out; simp at this; omega
            · exact ⟨ds, b0, b1, u, t, rds, h1, h2⟩
          clear hS
          go_wp2_with fail
          go_meet
          case rel => exact ⟨ds, b0, b1, u, t, rds, by omega, hM, hF⟩
      case rest =>
        clear hF hS o
        obtain ⟨ds, b0, b1, u, t, rds, hsz9, hM, hF⟩ := hcut
        have o := hF.own; simp only [World.size_alloc, World.size_drew, World.size_setCell, List.mem_cons, List.not_mem_nil, or_false, forall_eq_or_imp, forall_eq, At, and_true, Nat.zero_add, Nat.reduceAdd, List.set_cons_zero, List.set_cons_succ] at o
        obtain ⟨m, hmk⟩ : ∃ m, k / 3 = m := ⟨_, rfl⟩
        have HMK := Lib.hid hmk
        rw [hmk] at hM
        obtain ⟨g, cv, rfl⟩ : ∃ g cv, u3 = .slice (some ⟨g, 0, none⟩) (m + 1) cv := by
          have hl := hM.out.1.len
          obtain ⟨_, ⟨_, e2⟩ | ⟨g, cap, cur, e1, _⟩⟩ := hM.out.1.out
          · omega
          · exact ⟨g, cap, by rw [e1, hl]⟩
        obtain ⟨nv, hnv⟩ : ∃ nv, m + 1 = nv := ⟨_, rfl⟩
        rw [hnv] at hM ⊢
        obtain ⟨au, cu, rfl⟩ := hM.out.1.cu.sl
        obtain ⟨at', ct, rfl⟩ := hM.out.1.cv.sl
        obtain ⟨nu, hnu⟩ : ∃ nu, Hid ((cut D L (m * 3) k).1.length = nu) := ⟨_, rfl⟩
        obtain ⟨nt, hnt⟩ : ∃ nt, Hid (rds.length = nt) := ⟨_, rfl⟩
        rw [hnu.out, hnt.out] at hM
        have hcl := cut_len D L (m * 3) k
        have hnu1 : nu ≤ 1000 := by rw [hnu.out, hN1.out] at hcl; omega
        have hnt1 : nt ≤ 1000 := by have := hM.out.1.ct.1; rw [hnt.out] at this; rw [← this, hN1.out, hN2.out] at hcl; omega
        have hw7 : IntKind.i64.wrap ((nv : Int) - 1) = (m : Int) := by rw [IntWalk.i64_in _ (by omega)]; omega
        have hmv : m < nv := by omega
        have hmk3 : m * 3 ≤ k := by omega
        clear hcl hmk
        by_cases hkd : k < N1
        · have dk : decide ((k : Int) < (N1 : Int)) = true := decide_eq_true (by omega)
          obtain ⟨x, hx⟩ := get_of hN1.out hkd
          obtain ⟨cd, c2e⟩ := cut_drop D L hmk3 hx
          have hrds : rds = [] := List.length_eq_zero_iff.1 (by have := hM.out.1.ct.1; rw [c2e] at this; simpa using this)
          subst hrds
          obtain rfl : nt = 0 := by rw [← hnt.out]; rfl
          obtain ⟨Dc, hDc⟩ : ∃ Dc, (cut D L (m * 3) k).1 = Dc := ⟨_, rfl⟩
          rw [hDc, c2e] at hM
          rw [hDc] at cd hnu
          obtain ⟨f, b⟩ := x
          rcases HV.out.1 with ⟨h, _⟩ | ⟨_, b1, p1, e1, hel⟩
          · omega
          injection e1 with e1 _ _
          subst e1
          have E2 := Lib.hid (⟨hel.out k _ hx 0 _ rfl, hel.out k _ hx 1 _ rfl⟩ : w.cell? ⟨b1, p1 + k * 2, none⟩ = some (.int .i64 f) ∧ w.cell? ⟨b1, p1 + k * 2 + 1, none⟩ = some (.int .i64 b))
          have cd := Lib.hid cd
          obtain ⟨q0, q1, q2, q3, q4, q5⟩ := hM.out.1.cells hM.out.2
          dsimp only at q0 q1
          clear hx hDc c2e hel hnt hnt1
          go_upto_region 9 with (fail)
          refine wp_region_held_drew (S := fun w' => w'.cell? ⟨n0, 0, none⟩ = some (.slice (some ⟨b1, p1, none⟩) N1 c1) ∧ w'.cell? ⟨b1, p1 + k * 2, none⟩ = some (.int .i64 f) ∧ w'.cell? ⟨b1, p1 + k * 2 + 1, none⟩ = some (.int .i64 b)) (by kernel_rfl) ?hs (fun hHeld => ?_)
          case hs => exact ⟨Fb.get (by repeat (first | with_reducible exact hF | with_reducible apply Fb.drew | with_reducible apply Fb.other)) (List.mem_cons_self ..) rfl, Fb.old (by repeat (first | with_reducible exact hF | with_reducible apply Fb.drew | with_reducible apply Fb.other)) E2.out.1, Fb.old (by repeat (first | with_reducible exact hF | with_reducible apply Fb.drew | with_reducible apply Fb.other)) E2.out.2⟩
          refine wpAnyH_take (i := 0) (oi := _) (v := ?_) (by simp only [List.getElem?_toArray, List.getElem?_cons_succ, List.getElem?_cons_zero]; rfl) (by kernel_rfl) (by kernel_rfl) (by kernel_rfl) (by exact fun _ _ _ h => h) (Or.inl ⟨by rfl, ?hy⟩) (by assumption) ?_
          case hy => (intro w hSw; (try dsimp only at hSw); go_simp; (try with_reducible rfl))
          (try simp only [Act.put, List.setIfInBounds_toArray, List.set_cons_zero, List.set_cons_succ])
          refine wpAnyH_take (i := 1) (oi := _) (v := ?_) (by simp only [List.getElem?_toArray, List.getElem?_cons_succ, List.getElem?_cons_zero]; rfl) (by kernel_rfl) (by kernel_rfl) (by kernel_rfl) (by exact fun _ _ _ h => h) (Or.inl ⟨by rfl, ?hy⟩) (by assumption) ?_
          case hy => (intro w hSw; (try dsimp only at hSw); go_simp; (try with_reducible rfl))
          (try simp only [Act.put, List.setIfInBounds_toArray, List.set_cons_zero, List.set_cons_succ])
          refine wpAnyH_take (i := 2) (oi := _) (v := ?_) (by simp only [List.getElem?_toArray, List.getElem?_cons_succ, List.getElem?_cons_zero]; rfl) (by kernel_rfl) (by kernel_rfl) (by kernel_rfl) (by exact fun _ _ _ h => h) (Or.inl ⟨by rfl, ?hy⟩) (by assumption) ?_
          case hy => (intro w hSw; (try dsimp only at hSw); go_simp; (try with_reducible rfl))
          (try simp only [Act.put, List.setIfInBounds_toArray, List.set_cons_zero, List.set_cons_succ])
          refine wpAnyH_take (i := 3) (oi := _) (v := ?_) (by simp only [List.getElem?_toArray, List.getElem?_cons_succ, List.getElem?_cons_zero]; rfl) (by kernel_rfl) (by kernel_rfl) (by kernel_rfl) (by exact fun _ _ _ h => h) (Or.inl ⟨by rfl, ?hy⟩) (by assumption) ?_
          case hy => (intro w hSw; (try dsimp only at hSw); go_simp; (try with_reducible rfl))
          (try simp only [Act.put, List.setIfInBounds_toArray, List.set_cons_zero, List.set_cons_succ])
          refine wpAnyH_take (i := 4) (oi := _) (v := ?_) (by simp only [List.getElem?_toArray, List.getElem?_cons_succ, List.getElem?_cons_zero]; rfl) (by kernel_rfl) (by kernel_rfl) (by kernel_rfl) (by exact fun _ _ _ h => h) (Or.inl ⟨by rfl, ?hy⟩) (by assumption) ?_
          case hy => (intro w hSw; (try dsimp only at hSw); go_simp; (try with_reducible rfl))
          (try simp only [Act.put, List.setIfInBounds_toArray, List.set_cons_zero, List.set_cons_succ])
          refine wpAnyH_take (i := 5) (oi := _) (v := ?_) (by simp only [List.getElem?_toArray, List.getElem?_cons_succ, List.getElem?_cons_zero]; rfl) (by kernel_rfl) (by kernel_rfl) (by kernel_rfl) (by exact fun _ _ _ h => h) (Or.inl ⟨by rfl, ?hy⟩) (by assumption) ?_
          case hy => (intro w hSw; (try dsimp only at hSw); go_simp; (try with_reducible rfl))
          (try simp only [Act.put, List.setIfInBounds_toArray, List.set_cons_zero, List.set_cons_succ])
          refine wpAnyH_take (i := 7) (oi := _) (v := ?_) (by simp only [List.getElem?_toArray, List.getElem?_cons_succ, List.getElem?_cons_zero]; rfl) (by kernel_rfl) (by kernel_rfl) (by kernel_rfl) (by exact fun _ _ _ h => h) (Or.inl ⟨by rfl, ?hy⟩) (by assumption) ?_
          case hy => (intro w hSw; (try dsimp only at hSw); go_simp; (try with_reducible rfl))
          (try simp only [Act.put, List.setIfInBounds_toArray, List.set_cons_zero, List.set_cons_succ])
          refine wpAnyH_take (i := 8) (oi := _) (v := ?_) (by simp only [List.getElem?_toArray, List.getElem?_cons_succ, List.getElem?_cons_zero]; rfl) (by kernel_rfl) (by kernel_rfl) (by kernel_rfl) (by exact fun _ _ _ h => h) (Or.inl ⟨by rfl, ?hy⟩) (by assumption) ?_
          case hy => (intro w hSw; (try dsimp only at hSw); go_simp; (try with_reducible rfl))
          (try simp only [Act.put, List.setIfInBounds_toArray, List.set_cons_zero, List.set_cons_succ])
          refine wpAnyH_take (i := 9) (oi := _) (v := ?_) (by simp only [List.getElem?_toArray, List.getElem?_cons_succ, List.getElem?_cons_zero]; rfl) (by kernel_rfl) (by kernel_rfl) (by kernel_rfl) (by exact fun _ _ _ h => h) (Or.inl ⟨by rfl, ?hy⟩) (by assumption) ?_
          case hy => (intro w hSw; (try dsimp only at hSw); go_simp; (try with_reducible rfl))
          (try simp only [Act.put, List.setIfInBounds_toArray, List.set_cons_zero, List.set_cons_succ])
          refine wpAnyH_take (i := 10) (oi := _) (v := ?_) (by simp only [List.getElem?_toArray, List.getElem?_cons_succ, List.getElem?_cons_zero]; rfl) (by kernel_rfl) (by kernel_rfl) (by kernel_rfl) (by exact fun _ _ _ h => h) (Or.inl ⟨by rfl, ?hy⟩) (by assumption) ?_
          case hy => (intro w hSw; (try dsimp only at hSw); go_simp; (try with_reducible rfl))
          (try simp only [Act.put, List.setIfInBounds_toArray, List.set_cons_zero, List.set_cons_succ])
          refine wpAnyH_take (i := 11) (oi := _) (v := ?_) (by simp only [List.getElem?_toArray, List.getElem?_cons_succ, List.getElem?_cons_zero]; rfl) (by kernel_rfl) (by kernel_rfl) (by kernel_rfl) (by exact fun _ _ _ h => h) (Or.inl ⟨by rfl, ?hy⟩) (by assumption) ?_
          case hy => (intro w hSw; (try dsimp only at hSw); go_simp; (try with_reducible rfl))
          (try simp only [Act.put, List.setIfInBounds_toArray, List.set_cons_zero, List.set_cons_succ])
          refine wpAnyH_ready (rs := [6, 12]) (by kernel_rfl) (by simp) ?_
          refine AllReadyH.cons (o := _) (by simp only [List.getElem?_toArray, List.getElem?_cons_succ, List.getElem?_cons_zero]; rfl) (fun KK hK => ?_) (AllReadyH.cons (o := _) (by simp only [List.getElem?_toArray, List.getElem?_cons_succ, List.getElem?_cons_zero]; rfl) (fun KK hK => ?_) AllReadyH.nil)
          · go_simp
            refine hK.out _ _ ?hs (fun hHeld => ?_)
            case hs => ((try dsimp only); exact ⟨Fb.get (by repeat (first | with_reducible exact hF | with_reducible apply Fb.drew | with_reducible apply Fb.other)) (List.mem_cons_self ..) rfl, Fb.old (by repeat (first | with_reducible exact hF | with_reducible apply Fb.drew | with_reducible apply Fb.other)) E2.out.1, Fb.old (by repeat (first | with_reducible exact hF | with_reducible apply Fb.drew | with_reducible apply Fb.other)) E2.out.2⟩)
            clear hK KK
            (try simp only [Act.put, List.setIfInBounds_toArray, List.set_cons_zero, List.set_cons_succ])
            refine wpAnyH_ready (rs := [12]) (by kernel_rfl) (by simp) ?_
            refine AllReadyH.cons (o := _) (by simp only [List.getElem?_toArray, List.getElem?_cons_succ, List.getElem?_cons_zero]; rfl) (fun KK hK => ?_) AllReadyH.nil
            go_simp
            refine hK.out _ _ ?hs (fun hHeld => ?_)
            case hs => ((try dsimp only); exact ⟨Fb.get (by repeat (first | with_reducible exact hF | with_reducible apply Fb.drew | with_reducible apply Fb.other)) (List.mem_cons_self ..) rfl, Fb.old (by repeat (first | with_reducible exact hF | with_reducible apply Fb.drew | with_reducible apply Fb.other)) E2.out.1, Fb.old (by repeat (first | with_reducible exact hF | with_reducible apply Fb.drew | with_reducible apply Fb.other)) E2.out.2⟩)
            clear hK KK
            (try simp only [Act.put, List.setIfInBounds_toArray, List.set_cons_zero, List.set_cons_succ])
            refine wpAnyH_ready (rs := [13]) (by kernel_rfl) (by simp) ?_
            refine AllReadyH.cons (o := _) (by simp only [List.getElem?_toArray, List.getElem?_cons_succ, List.getElem?_cons_zero]; rfl) (fun KK hK => ?_) AllReadyH.nil
            refine step_app (by rfl) _ _ 29 (by rfl) 62 (.agg #[.int .i64 0, .int .i64 0]) 2 16 Try.underlying29 infoRg rfl (by decide) (by decide) b0 encRg _ Dc rfl (hM.out.1.cu.alloc _).drew (f, b) ⟨_, 0, none⟩ 1 rfl rfl (cells_newD _ _ _) (by simp [encRg, Value.oneCell']) (by have := hnu.out; omega) (by have := hM.out.1.lo; simp only [World.size_alloc, World.size_drew]; omega) ?_
            intro v9 wz hO9 hg9 hb9 hf9
            have hsz9 := hb9.size
            simp only [World.size_alloc, World.size_drew] at hsz9
            have hM2 := (hM.out.1.below (((Below.refl _ _).alloc (Nat.le_refl _) _).drew)).growU hg9 hO9
            replace hF := (hF.other (.cells #[.int .i64 f, .int .i64 b] 62)).drew.grownQ hg9 (fun g' hg => by have := hM.out.1.cu.ge g' hg; have := hM.out.1.lo; omega) (fun p hp e => by have := hM.out.1.cu.ge _ e; have := hM.out.1.lo; simp only [List.mem_cons, List.not_mem_nil, or_false] at hp; subst hp; dsimp only at this; omega)
            obtain ⟨q0, q1, q2, q3, q4, q5⟩ := hM2.cells hM.out.2
            dsimp only at q0 q1
            obtain ⟨a9, c9, rfl⟩ := hO9.sl
            obtain ⟨n9, hn9⟩ : ∃ n9, Hid ((Dc ++ [(f, b)]).length = n9) := ⟨_, rfl⟩
            rw [hn9.out] at hM2 ⊢
            have HM2 := Lib.hid hM2
            clear hO9 hg9 hb9 hf9 hM2 o
            have o := hF.own; simp only [World.size_alloc, World.size_drew, World.size_setCell, List.mem_cons, List.not_mem_nil, or_false, forall_eq_or_imp, forall_eq, At, and_true, Nat.zero_add, Nat.reduceAdd, List.set_cons_zero, List.set_cons_succ] at o
            refine hK.out _ _ ?hs (fun hHeld => ?_)
            case hs => ((try dsimp only); exact ⟨Fb.get (by repeat (first | with_reducible exact hF | with_reducible apply Fb.drew | with_reducible apply Fb.other)) (List.mem_cons_self ..) rfl, Fb.old (by repeat (first | with_reducible exact hF | with_reducible apply Fb.drew | with_reducible apply Fb.other)) E2.out.1, Fb.old (by repeat (first | with_reducible exact hF | with_reducible apply Fb.drew | with_reducible apply Fb.other)) E2.out.2⟩)
            clear hK KK
            (try simp only [Act.put, List.setIfInBounds_toArray, List.set_cons_zero, List.set_cons_succ])
            refine wpAnyH_take (i := 14) (oi := _) (v := ?_) (by simp only [List.getElem?_toArray, List.getElem?_cons_succ, List.getElem?_cons_zero]; rfl) (by kernel_rfl) (by kernel_rfl) (by kernel_rfl) (by exact fun _ _ _ h => h) (Or.inl ⟨by rfl, ?hy⟩) (by assumption) ?_
            case hy => (intro w hSw; (try dsimp only at hSw); go_simp; (try with_reducible rfl))
            (try simp only [Act.put, List.setIfInBounds_toArray, List.set_cons_zero, List.set_cons_succ])
            refine wpAnyH_take (i := 15) (oi := _) (v := ?_) (by simp only [List.getElem?_toArray, List.getElem?_cons_succ, List.getElem?_cons_zero]; rfl) (by kernel_rfl) (by kernel_rfl) (by kernel_rfl) (by exact fun _ _ _ h => h) (Or.inl ⟨by rfl, ?hy⟩) (by assumption) ?_
            case hy => (intro w hSw; (try dsimp only at hSw); go_simp; (try with_reducible rfl))
            (try simp only [Act.put, List.setIfInBounds_toArray, List.set_cons_zero, List.set_cons_succ])
            refine wpAnyH_ready (rs := [16]) (by kernel_rfl) (by simp) ?_
            refine AllReadyH.cons (o := _) (by simp only [List.getElem?_toArray, List.getElem?_cons_succ, List.getElem?_cons_zero]; rfl) (fun KK hK => ?_) AllReadyH.nil
            go_simp
            replace hF := hF.setAway ⟨g, m * 2, none⟩ (.slice a9 n9 c9) (by dsimp only; omega) (fun q hq => by simp only [List.mem_cons, List.not_mem_nil, or_false] at hq; subst hq; dsimp only; omega)
            have hM3 := HM2.out.put (j := 0) (x := .slice a9 n9 c9) (e := ⟨.slice a9 n9 c9, .slice at' 0 ct, []⟩) hM.out.2 (by decide) rfl
            refine hK.out _ _ ?hs (fun hHeld => ?_)
            case hs => ((try dsimp only); exact ⟨Fb.get (by repeat (first | with_reducible exact hF | with_reducible apply Fb.drew | with_reducible apply Fb.other)) (List.mem_cons_self ..) rfl, Fb.old (by repeat (first | with_reducible exact hF | with_reducible apply Fb.drew | with_reducible apply Fb.other)) E2.out.1, Fb.old (by repeat (first | with_reducible exact hF | with_reducible apply Fb.drew | with_reducible apply Fb.other)) E2.out.2⟩)
            clear hK KK
            (try simp only [Act.put, List.setIfInBounds_toArray, List.set_cons_zero, List.set_cons_succ])
            refine wpAnyH_done (by kernel_rfl) ?_ _
            have hS := Lib.hid (StC.next (k := k) (by rw [HMK.out, cd.out]; exact hM3) (by rw [HMK.out]; exact List.getElem?_set_self (List.getElem?_eq_some_iff.1 hM.out.2).1))
            clear hM3 HM2 hM q0 q1 q2 q3 o
            have o := hF.own; simp only [World.size_alloc, World.size_drew, World.size_setCell, List.mem_cons, List.not_mem_nil, or_false, forall_eq_or_imp, forall_eq, At, and_true, Nat.zero_add, Nat.reduceAdd, List.set_cons_zero, List.set_cons_succ] at o
            go_wp2_with fail
            go_roundw
            case rel => exact ⟨k + 1, by go_num, by omega, by simp only [World.size_setCell]; omega, hS, hF⟩
            case measure => simp [intOf]; omega
          · go_simp
            refine hK.out _ _ ?hs (fun hHeld => ?_)
            case hs => ((try dsimp only); exact ⟨Fb.get (by repeat (first | with_reducible exact hF | with_reducible apply Fb.drew | with_reducible apply Fb.other)) (List.mem_cons_self ..) rfl, Fb.old (by repeat (first | with_reducible exact hF | with_reducible apply Fb.drew | with_reducible apply Fb.other)) E2.out.1, Fb.old (by repeat (first | with_reducible exact hF | with_reducible apply Fb.drew | with_reducible apply Fb.other)) E2.out.2⟩)
            clear hK KK
            (try simp only [Act.put, List.setIfInBounds_toArray, List.set_cons_zero, List.set_cons_succ])
            refine wpAnyH_ready (rs := [6]) (by kernel_rfl) (by simp) ?_
            refine AllReadyH.cons (o := _) (by simp only [List.getElem?_toArray, List.getElem?_cons_succ, List.getElem?_cons_zero]; rfl) (fun KK hK => ?_) AllReadyH.nil
            go_simp
            refine hK.out _ _ ?hs (fun hHeld => ?_)
            case hs => ((try dsimp only); exact ⟨Fb.get (by repeat (first | with_reducible exact hF | with_reducible apply Fb.drew | with_reducible apply Fb.other)) (List.mem_cons_self ..) rfl, Fb.old (by repeat (first | with_reducible exact hF | with_reducible apply Fb.drew | with_reducible apply Fb.other)) E2.out.1, Fb.old (by repeat (first | with_reducible exact hF | with_reducible apply Fb.drew | with_reducible apply Fb.other)) E2.out.2⟩)
            clear hK KK
            (try simp only [Act.put, List.setIfInBounds_toArray, List.set_cons_zero, List.set_cons_succ])
            refine wpAnyH_ready (rs := [13]) (by kernel_rfl) (by simp) ?_
            refine AllReadyH.cons (o := _) (by simp only [List.getElem?_toArray, List.getElem?_cons_succ, List.getElem?_cons_zero]; rfl) (fun KK hK => ?_) AllReadyH.nil
            refine step_app (by rfl) _ _ 29 (by rfl) 62 (.agg #[.int .i64 0, .int .i64 0]) 2 16 Try.underlying29 infoRg rfl (by decide) (by decide) b0 encRg _ Dc rfl (hM.out.1.cu.alloc _).drew (f, b) ⟨_, 0, none⟩ 1 rfl rfl (cells_newD _ _ _) (by simp [encRg, Value.oneCell']) (by have := hnu.out; omega) (by have := hM.out.1.lo; simp only [World.size_alloc, World.size_drew]; omega) ?_
            intro v9 wz hO9 hg9 hb9 hf9
            have hsz9 := hb9.size
            simp only [World.size_alloc, World.size_drew] at hsz9
            have hM2 := (hM.out.1.below (((Below.refl _ _).alloc (Nat.le_refl _) _).drew)).growU hg9 hO9
            replace hF := (hF.other (.cells #[.int .i64 f, .int .i64 b] 62)).drew.grownQ hg9 (fun g' hg => by have := hM.out.1.cu.ge g' hg; have := hM.out.1.lo; omega) (fun p hp e => by have := hM.out.1.cu.ge _ e; have := hM.out.1.lo; simp only [List.mem_cons, List.not_mem_nil, or_false] at hp; subst hp; dsimp only at this; omega)
            obtain ⟨q0, q1, q2, q3, q4, q5⟩ := hM2.cells hM.out.2
            dsimp only at q0 q1
            obtain ⟨a9, c9, rfl⟩ := hO9.sl
            obtain ⟨n9, hn9⟩ : ∃ n9, Hid ((Dc ++ [(f, b)]).length = n9) := ⟨_, rfl⟩
            rw [hn9.out] at hM2 ⊢
            have HM2 := Lib.hid hM2
            clear hO9 hg9 hb9 hf9 hM2 o
            have o := hF.own; simp only [World.size_alloc, World.size_drew, World.size_setCell, List.mem_cons, List.not_mem_nil, or_false, forall_eq_or_imp, forall_eq, At, and_true, Nat.zero_add, Nat.reduceAdd, List.set_cons_zero, List.set_cons_succ] at o
            refine hK.out _ _ ?hs (fun hHeld => ?_)
            case hs => ((try dsimp only); exact ⟨Fb.get (by repeat (first | with_reducible exact hF | with_reducible apply Fb.drew | with_reducible apply Fb.other)) (List.mem_cons_self ..) rfl, Fb.old (by repeat (first | with_reducible exact hF | with_reducible apply Fb.drew | with_reducible apply Fb.other)) E2.out.1, Fb.old (by repeat (first | with_reducible exact hF | with_reducible apply Fb.drew | with_reducible apply Fb.other)) E2.out.2⟩)
            clear hK KK
            (try simp only [Act.put, List.setIfInBounds_toArray, List.set_cons_zero, List.set_cons_succ])
            refine wpAnyH_take (i := 14) (oi := _) (v := ?_) (by simp only [List.getElem?_toArray, List.getElem?_cons_succ, List.getElem?_cons_zero]; rfl) (by kernel_rfl) (by kernel_rfl) (by kernel_rfl) (by exact fun _ _ _ h => h) (Or.inl ⟨by rfl, ?hy⟩) (by assumption) ?_
            case hy => (intro w hSw; (try dsimp only at hSw); go_simp; (try with_reducible rfl))
            (try simp only [Act.put, List.setIfInBounds_toArray, List.set_cons_zero, List.set_cons_succ])
            refine wpAnyH_take (i := 15) (oi := _) (v := ?_) (by simp only [List.getElem?_toArray, List.getElem?_cons_succ, List.getElem?_cons_zero]; rfl) (by kernel_rfl) (by kernel_rfl) (by kernel_rfl) (by exact fun _ _ _ h => h) (Or.inl ⟨by rfl, ?hy⟩) (by assumption) ?_
            case hy => (intro w hSw; (try dsimp only at hSw); go_simp; (try with_reducible rfl))
            (try simp only [Act.put, List.setIfInBounds_toArray, List.set_cons_zero, List.set_cons_succ])
            refine wpAnyH_ready (rs := [16]) (by kernel_rfl) (by simp) ?_
            refine AllReadyH.cons (o := _) (by simp only [List.getElem?_toArray, List.getElem?_cons_succ, List.getElem?_cons_zero]; rfl) (fun KK hK => ?_) AllReadyH.nil
            go_simp
            replace hF := hF.setAway ⟨g, m * 2, none⟩ (.slice a9 n9 c9) (by dsimp only; omega) (fun q hq => by simp only [List.mem_cons, List.not_mem_nil, or_false] at hq; subst hq; dsimp only; omega)
            have hM3 := HM2.out.put (j := 0) (x := .slice a9 n9 c9) (e := ⟨.slice a9 n9 c9, .slice at' 0 ct, []⟩) hM.out.2 (by decide) rfl
            refine hK.out _ _ ?hs (fun hHeld => ?_)
            case hs => ((try dsimp only); exact ⟨Fb.get (by repeat (first | with_reducible exact hF | with_reducible apply Fb.drew | with_reducible apply Fb.other)) (List.mem_cons_self ..) rfl, Fb.old (by repeat (first | with_reducible exact hF | with_reducible apply Fb.drew | with_reducible apply Fb.other)) E2.out.1, Fb.old (by repeat (first | with_reducible exact hF | with_reducible apply Fb.drew | with_reducible apply Fb.other)) E2.out.2⟩)
            clear hK KK
            (try simp only [Act.put, List.setIfInBounds_toArray, List.set_cons_zero, List.set_cons_succ])
            refine wpAnyH_done (by kernel_rfl) ?_ _
            have hS := Lib.hid (StC.next (k := k) (by rw [HMK.out, cd.out]; exact hM3) (by rw [HMK.out]; exact List.getElem?_set_self (List.getElem?_eq_some_iff.1 hM.out.2).1))
            clear hM3 HM2 hM q0 q1 q2 q3 o
            have o := hF.own; simp only [World.size_alloc, World.size_drew, World.size_setCell, List.mem_cons, List.not_mem_nil, or_false, forall_eq_or_imp, forall_eq, At, and_true, Nat.zero_add, Nat.reduceAdd, List.set_cons_zero, List.set_cons_succ] at o
            go_wp2_with fail
            go_roundw
            case rel => exact ⟨k + 1, by go_num, by omega, by simp only [World.size_setCell]; omega, hS, hF⟩
            case measure => simp [intOf]; omega
        · have dk : decide ((k : Int) < (N1 : Int)) = false := decide_eq_false (by omega)
          obtain ⟨j, hj⟩ := Nat.exists_eq_add_of_le (show N1 ≤ k by omega)
          have hjn : j < N2 := by omega
          have hwj : IntKind.i64.wrap ((k : Int) - (N1 : Int)) = (j : Int) := by rw [IntWalk.i64_in _ (by omega)]; omega
          obtain ⟨s, hs⟩ := get_of hN2.out hjn
          have HSS := Lib.hid (HSm.out s (List.mem_of_getElem? hs))
          have ct' := cut_tell D L hmk3 (show k = D.length + j by rw [hN1.out]; exact hj) hs
          have ct := Lib.hid ct'
          clear ct'
          obtain ⟨f, b, lk, P, M⟩ := s
          obtain ⟨d1, p1, rfl⟩ := GLs.adr HV.out.2 (by omega)
          obtain ⟨a5, m5, c5, a6, m6, c6, ⟨e0, e1, e2, e3, e4⟩, i1, i2⟩ := Ris.at HV.out.2 hs
          have E5 := Lib.hid (⟨e0, e1, e2, e3, e4⟩ : w.cell? ⟨d1, p1 + j * 5, none⟩ = _ ∧ w.cell? ⟨d1, p1 + j * 5 + 1, none⟩ = _ ∧ w.cell? ⟨d1, p1 + j * 5 + 2, none⟩ = _ ∧ w.cell? ⟨d1, p1 + j * 5 + 3, none⟩ = _ ∧ w.cell? ⟨d1, p1 + j * 5 + 4, none⟩ = _)
          have HI := Lib.hid (And.intro i1 i2)
          obtain ⟨q0, q1, q2, q3, q4, q5⟩ := hM.out.1.cells hM.out.2
          dsimp only at q0 q1
          clear hs e0 e1 e2 e3 e4 i1 i2 hj
          go_upto_region 10 with (fail)
          refine wp_region_held_drew (S := fun w' => w'.cell? ⟨n0, 0, none⟩ = some (.slice a1 N1 c1) ∧ w'.cell? ⟨n0, 1, none⟩ = some (.slice (some ⟨d1, p1, none⟩) N2 c2) ∧ w'.cell? ⟨d1, p1 + j * 5, none⟩ = some (.int .i64 f) ∧ w'.cell? ⟨d1, p1 + j * 5 + 1, none⟩ = some (.int .i64 b) ∧ w'.cell? ⟨d1, p1 + j * 5 + 2, none⟩ = some (.slice a5 m5 c5) ∧ w'.cell? ⟨d1, p1 + j * 5 + 3, none⟩ = some (.int .i64 lk) ∧ w'.cell? ⟨d1, p1 + j * 5 + 4, none⟩ = some (.slice a6 m6 c6)) (by kernel_rfl) ?hs (fun hHeld => ?_)
          case hs => exact ⟨Fb.get (by repeat (first | with_reducible exact hF | with_reducible apply Fb.drew | with_reducible apply Fb.other)) (List.mem_cons_self ..) rfl, Fb.get (by repeat (first | with_reducible exact hF | with_reducible apply Fb.drew | with_reducible apply Fb.other)) (List.mem_cons_self ..) rfl, Fb.old (by repeat (first | with_reducible exact hF | with_reducible apply Fb.drew | with_reducible apply Fb.other)) E5.out.1, Fb.old (by repeat (first | with_reducible exact hF | with_reducible apply Fb.drew | with_reducible apply Fb.other)) E5.out.2.1, Fb.old (by repeat (first | with_reducible exact hF | with_reducible apply Fb.drew | with_reducible apply Fb.other)) E5.out.2.2.1, Fb.old (by repeat (first | with_reducible exact hF | with_reducible apply Fb.drew | with_reducible apply Fb.other)) E5.out.2.2.2.1, Fb.old (by repeat (first | with_reducible exact hF | with_reducible apply Fb.drew | with_reducible apply Fb.other)) E5.out.2.2.2.2⟩
          refine wpAnyH_take (i := 0) (oi := _) (v := ?_) (by simp only [List.getElem?_toArray, List.getElem?_cons_succ, List.getElem?_cons_zero]; rfl) (by kernel_rfl) (by kernel_rfl) (by kernel_rfl) (by exact fun _ _ _ h => h) (Or.inl ⟨by rfl, ?hy⟩) (by assumption) ?_
          case hy => (intro w hSw; (try dsimp only at hSw); go_simp; (try with_reducible rfl))
          (try simp only [Act.put, List.setIfInBounds_toArray, List.set_cons_zero, List.set_cons_succ])
          refine wpAnyH_take (i := 1) (oi := _) (v := ?_) (by simp only [List.getElem?_toArray, List.getElem?_cons_succ, List.getElem?_cons_zero]; rfl) (by kernel_rfl) (by kernel_rfl) (by kernel_rfl) (by exact fun _ _ _ h => h) (Or.inl ⟨by rfl, ?hy⟩) (by assumption) ?_
          case hy => (intro w hSw; (try dsimp only at hSw); go_simp; (try with_reducible rfl))
          (try simp only [Act.put, List.setIfInBounds_toArray, List.set_cons_zero, List.set_cons_succ])
          refine wpAnyH_take (i := 2) (oi := _) (v := ?_) (by simp only [List.getElem?_toArray, List.getElem?_cons_succ, List.getElem?_cons_zero]; rfl) (by kernel_rfl) (by kernel_rfl) (by kernel_rfl) (by exact fun _ _ _ h => h) (Or.inl ⟨by rfl, ?hy⟩) (by assumption) ?_
          case hy => (intro w hSw; (try dsimp only at hSw); go_simp; (try with_reducible rfl))
          (try simp only [Act.put, List.setIfInBounds_toArray, List.set_cons_zero, List.set_cons_succ])
          refine wpAnyH_take (i := 3) (oi := _) (v := ?_) (by simp only [List.getElem?_toArray, List.getElem?_cons_succ, List.getElem?_cons_zero]; rfl) (by kernel_rfl) (by kernel_rfl) (by kernel_rfl) (by exact fun _ _ _ h => h) (Or.inl ⟨by rfl, ?hy⟩) (by assumption) ?_
          case hy => (intro w hSw; (try dsimp only at hSw); go_simp; (try with_reducible rfl))
          (try simp only [Act.put, List.setIfInBounds_toArray, List.set_cons_zero, List.set_cons_succ])
          refine wpAnyH_take (i := 4) (oi := _) (v := ?_) (by simp only [List.getElem?_toArray, List.getElem?_cons_succ, List.getElem?_cons_zero]; rfl) (by kernel_rfl) (by kernel_rfl) (by kernel_rfl) (by exact fun _ _ _ h => h) (Or.inl ⟨by rfl, ?hy⟩) (by assumption) ?_
          case hy => (intro w hSw; (try dsimp only at hSw); go_simp; (try with_reducible rfl))
          (try simp only [Act.put, List.setIfInBounds_toArray, List.set_cons_zero, List.set_cons_succ])
          refine wpAnyH_take (i := 5) (oi := _) (v := ?_) (by simp only [List.getElem?_toArray, List.getElem?_cons_succ, List.getElem?_cons_zero]; rfl) (by kernel_rfl) (by kernel_rfl) (by kernel_rfl) (by exact fun _ _ _ h => h) (Or.inl ⟨by rfl, ?hy⟩) (by assumption) ?_
          case hy => (intro w hSw; (try dsimp only at hSw); go_simp; (try with_reducible rfl))
          (try simp only [Act.put, List.setIfInBounds_toArray, List.set_cons_zero, List.set_cons_succ])
          refine wpAnyH_take (i := 7) (oi := _) (v := ?_) (by simp only [List.getElem?_toArray, List.getElem?_cons_succ, List.getElem?_cons_zero]; rfl) (by kernel_rfl) (by kernel_rfl) (by kernel_rfl) (by exact fun _ _ _ h => h) (Or.inl ⟨by rfl, ?hy⟩) (by assumption) ?_
          case hy => (intro w hSw; (try dsimp only at hSw); go_simp; (try with_reducible rfl))
          (try simp only [Act.put, List.setIfInBounds_toArray, List.set_cons_zero, List.set_cons_succ])
          refine wpAnyH_take (i := 8) (oi := _) (v := ?_) (by simp only [List.getElem?_toArray, List.getElem?_cons_succ, List.getElem?_cons_zero]; rfl) (by kernel_rfl) (by kernel_rfl) (by kernel_rfl) (by exact fun _ _ _ h => h) (Or.inl ⟨by rfl, ?hy⟩) (by assumption) ?_
          case hy => (intro w hSw; (try dsimp only at hSw); go_simp; (try with_reducible rfl))
          (try simp only [Act.put, List.setIfInBounds_toArray, List.set_cons_zero, List.set_cons_succ])
          refine wpAnyH_take (i := 9) (oi := _) (v := ?_) (by simp only [List.getElem?_toArray, List.getElem?_cons_succ, List.getElem?_cons_zero]; rfl) (by kernel_rfl) (by kernel_rfl) (by kernel_rfl) (by exact fun _ _ _ h => h) (Or.inl ⟨by rfl, ?hy⟩) (by assumption) ?_
          case hy => (intro w hSw; (try dsimp only at hSw); go_simp; (try with_reducible rfl))
          (try simp only [Act.put, List.setIfInBounds_toArray, List.set_cons_zero, List.set_cons_succ])
          refine wpAnyH_take (i := 10) (oi := _) (v := ?_) (by simp only [List.getElem?_toArray, List.getElem?_cons_succ, List.getElem?_cons_zero]; rfl) (by kernel_rfl) (by kernel_rfl) (by kernel_rfl) (by exact fun _ _ _ h => h) (Or.inl ⟨by rfl, ?hy⟩) (by assumption) ?_
          case hy => (intro w hSw; (try dsimp only at hSw); go_simp; (try with_reducible rfl))
          (try simp only [Act.put, List.setIfInBounds_toArray, List.set_cons_zero, List.set_cons_succ])
          refine wpAnyH_take (i := 11) (oi := _) (v := ?_) (by simp only [List.getElem?_toArray, List.getElem?_cons_succ, List.getElem?_cons_zero]; rfl) (by kernel_rfl) (by kernel_rfl) (by kernel_rfl) (by exact fun _ _ _ h => h) (Or.inl ⟨by rfl, ?hy⟩) (by assumption) ?_
          case hy => (intro w hSw; (try dsimp only at hSw); go_simp; (try with_reducible rfl))
          (try simp only [Act.put, List.setIfInBounds_toArray, List.set_cons_zero, List.set_cons_succ])
          refine wpAnyH_take (i := 12) (oi := _) (v := ?_) (by simp only [List.getElem?_toArray, List.getElem?_cons_succ, List.getElem?_cons_zero]; rfl) (by kernel_rfl) (by kernel_rfl) (by kernel_rfl) (by exact fun _ _ _ h => h) (Or.inl ⟨by rfl, ?hy⟩) (by assumption) ?_
          case hy => (intro w hSw; (try dsimp only at hSw); go_simp; (try with_reducible rfl))
          (try simp only [Act.put, List.setIfInBounds_toArray, List.set_cons_zero, List.set_cons_succ])
          refine wpAnyH_take (i := 13) (oi := _) (v := ?_) (by simp only [List.getElem?_toArray, List.getElem?_cons_succ, List.getElem?_cons_zero]; rfl) (by kernel_rfl) (by kernel_rfl) (by kernel_rfl) (by exact fun _ _ _ h => h) (Or.inl ⟨by rfl, ?hy⟩) (by assumption) ?_
          case hy => (intro w hSw; (try dsimp only at hSw); go_simp; (try with_reducible rfl))
          (try simp only [Act.put, List.setIfInBounds_toArray, List.set_cons_zero, List.set_cons_succ])
          refine wpAnyH_take (i := 14) (oi := _) (v := ?_) (by simp only [List.getElem?_toArray, List.getElem?_cons_succ, List.getElem?_cons_zero]; rfl) (by kernel_rfl) (by kernel_rfl) (by kernel_rfl) (by exact fun _ _ _ h => h) (Or.inl ⟨by rfl, ?hy⟩) (by assumption) ?_
          case hy => (intro w hSw; (try dsimp only at hSw); go_simp; (try with_reducible rfl))
          (try simp only [Act.put, List.setIfInBounds_toArray, List.set_cons_zero, List.set_cons_succ])
          refine wpAnyH_take (i := 15) (oi := _) (v := ?_) (by simp only [List.getElem?_toArray, List.getElem?_cons_succ, List.getElem?_cons_zero]; rfl) (by kernel_rfl) (by kernel_rfl) (by kernel_rfl) (by exact fun _ _ _ h => h) (Or.inl ⟨by rfl, ?hy⟩) (by assumption) ?_
          case hy => (intro w hSw; (try dsimp only at hSw); go_simp; (try with_reducible rfl))
          (try simp only [Act.put, List.setIfInBounds_toArray, List.set_cons_zero, List.set_cons_succ])
          refine wpAnyH_ready (rs := [6, 16]) (by kernel_rfl) (by simp) ?_
          refine AllReadyH.cons (o := _) (by simp only [List.getElem?_toArray, List.getElem?_cons_succ, List.getElem?_cons_zero]; rfl) (fun KK hK => ?_) (AllReadyH.cons (o := _) (by simp only [List.getElem?_toArray, List.getElem?_cons_succ, List.getElem?_cons_zero]; rfl) (fun KK hK => ?_) AllReadyH.nil)
          · go_simp
            refine hK.out _ _ ?hs (fun hHeld => ?_)
            case hs => ((try dsimp only); exact ⟨Fb.get (by repeat (first | with_reducible exact hF | with_reducible apply Fb.drew | with_reducible apply Fb.other)) (List.mem_cons_self ..) rfl, Fb.get (by repeat (first | with_reducible exact hF | with_reducible apply Fb.drew | with_reducible apply Fb.other)) (List.mem_cons_self ..) rfl, Fb.old (by repeat (first | with_reducible exact hF | with_reducible apply Fb.drew | with_reducible apply Fb.other)) E5.out.1, Fb.old (by repeat (first | with_reducible exact hF | with_reducible apply Fb.drew | with_reducible apply Fb.other)) E5.out.2.1, Fb.old (by repeat (first | with_reducible exact hF | with_reducible apply Fb.drew | with_reducible apply Fb.other)) E5.out.2.2.1, Fb.old (by repeat (first | with_reducible exact hF | with_reducible apply Fb.drew | with_reducible apply Fb.other)) E5.out.2.2.2.1, Fb.old (by repeat (first | with_reducible exact hF | with_reducible apply Fb.drew | with_reducible apply Fb.other)) E5.out.2.2.2.2⟩)
            clear hK KK
            (try simp only [Act.put, List.setIfInBounds_toArray, List.set_cons_zero, List.set_cons_succ])
            refine wpAnyH_ready (rs := [16]) (by kernel_rfl) (by simp) ?_
            refine AllReadyH.cons (o := _) (by simp only [List.getElem?_toArray, List.getElem?_cons_succ, List.getElem?_cons_zero]; rfl) (fun KK hK => ?_) AllReadyH.nil
            go_simp
            (go_at_call 36; go_must (refine (l4Copy_any f b lk _ _ P M _ (It.below HI.out.1 (Fb.kp (W := w) (by repeat (first | with_reducible exact hF | with_reducible apply Fb.drew | with_reducible apply Fb.other)))) (It.below HI.out.2 (Fb.kp (W := w) (by repeat (first | with_reducible exact hF | with_reducible apply Fb.drew | with_reducible apply Fb.other)))) (by have := HSS.out.2.2.2.1.1; dsimp only at this; omega) (by have := HSS.out.2.2.2.2; dsimp only at this; omega)).mono ?_); rintro e wy ⟨pv9, mv9, rfl, y1, y2, hby⟩; obtain ⟨oy1, cy1, rfl, -⟩ := y1.1.1.ex; obtain ⟨oy2, cy2, rfl, -⟩ := y2.1.1.ex; have hlo := Lib.hid (And.intro hM.out.1.cv.lt hM.out.1.lo.2.2); have hsy := hby.size; simp only [World.size_drew] at hsy y1 y2; replace hF := Fb.below (by repeat (first | with_reducible exact hF | with_reducible apply Fb.drew | with_reducible apply Fb.other)) hby; replace hM := Lib.hid (And.intro (Mid.below hM.out.1 (((Below.refl _ _).drew).trans hby)) hM.out.2); clear hby o q0 q1 q2 q3; obtain ⟨q0, q1, q2, q3, q4, q5⟩ := hM.out.1.cells hM.out.2; dsimp only at q0 q1; have o := hF.own; simp only [World.size_alloc, World.size_drew, World.size_setCell, List.mem_cons, List.not_mem_nil, or_false, forall_eq_or_imp, forall_eq, At, and_true, Nat.zero_add, Nat.reduceAdd, List.set_cons_zero, List.set_cons_succ] at o)
            (try go_wp2_with fail)
            refine hK.out _ _ ?hs (fun hHeld => ?_)
            case hs => ((try dsimp only); exact ⟨Fb.get (by repeat (first | with_reducible exact hF | with_reducible apply Fb.drew | with_reducible apply Fb.other)) (List.mem_cons_self ..) rfl, Fb.get (by repeat (first | with_reducible exact hF | with_reducible apply Fb.drew | with_reducible apply Fb.other)) (List.mem_cons_self ..) rfl, Fb.old (by repeat (first | with_reducible exact hF | with_reducible apply Fb.drew | with_reducible apply Fb.other)) E5.out.1, Fb.old (by repeat (first | with_reducible exact hF | with_reducible apply Fb.drew | with_reducible apply Fb.other)) E5.out.2.1, Fb.old (by repeat (first | with_reducible exact hF | with_reducible apply Fb.drew | with_reducible apply Fb.other)) E5.out.2.2.1, Fb.old (by repeat (first | with_reducible exact hF | with_reducible apply Fb.drew | with_reducible apply Fb.other)) E5.out.2.2.2.1, Fb.old (by repeat (first | with_reducible exact hF | with_reducible apply Fb.drew | with_reducible apply Fb.other)) E5.out.2.2.2.2⟩)
            clear hK KK
            (try simp only [Act.put, List.setIfInBounds_toArray, List.set_cons_zero, List.set_cons_succ])
            refine wpAnyH_ready (rs := [17]) (by kernel_rfl) (by simp) ?_
            refine AllReadyH.cons (o := _) (by simp only [List.getElem?_toArray, List.getElem?_cons_succ, List.getElem?_cons_zero]; rfl) (fun KK hK => ?_) AllReadyH.nil
            go_simp
            refine hK.out _ _ ?hs (fun hHeld => ?_)
            case hs => ((try dsimp only); exact ⟨Fb.get (by repeat (first | with_reducible exact hF | with_reducible apply Fb.drew | with_reducible apply Fb.other)) (List.mem_cons_self ..) rfl, Fb.get (by repeat (first | with_reducible exact hF | with_reducible apply Fb.drew | with_reducible apply Fb.other)) (List.mem_cons_self ..) rfl, Fb.old (by repeat (first | with_reducible exact hF | with_reducible apply Fb.drew | with_reducible apply Fb.other)) E5.out.1, Fb.old (by repeat (first | with_reducible exact hF | with_reducible apply Fb.drew | with_reducible apply Fb.other)) E5.out.2.1, Fb.old (by repeat (first | with_reducible exact hF | with_reducible apply Fb.drew | with_reducible apply Fb.other)) E5.out.2.2.1, Fb.old (by repeat (first | with_reducible exact hF | with_reducible apply Fb.drew | with_reducible apply Fb.other)) E5.out.2.2.2.1, Fb.old (by repeat (first | with_reducible exact hF | with_reducible apply Fb.drew | with_reducible apply Fb.other)) E5.out.2.2.2.2⟩)
            clear hK KK
            (try simp only [Act.put, List.setIfInBounds_toArray, List.set_cons_zero, List.set_cons_succ])
            refine wpAnyH_ready (rs := [18]) (by kernel_rfl) (by simp) ?_
            refine AllReadyH.cons (o := _) (by simp only [List.getElem?_toArray, List.getElem?_cons_succ, List.getElem?_cons_zero]; rfl) (fun KK hK => ?_) AllReadyH.nil
            refine step_app (by rfl) _ _ 30 (by rfl) 64 (.agg #[.int .i64 0, .int .i64 0, .slice none 0 0, .int .i64 0, .slice none 0 0]) 5 72 Try.underlying30 infoRt rfl (by decide) (by decide) b0 encRt _ rds rfl (hM.out.1.cv.alloc _) (⟨f, b, lk, .slice oy1 P.length cy1, .slice oy2 M.length cy2⟩ : RtD) ⟨_, 0, none⟩ 1 rfl rfl (cells_new _ _ _) (by simp [encRt, Value.oneCell']) (by have := hnt.out; omega) (by have := hM.out.1.lo; simp only [World.size_alloc]; omega) ?_
            intro v9 wz hO9 hg9 hb9 hf9
            have hsz9 := hb9.size
            simp only [World.size_alloc] at hsz9
            have hM2 := Mid.growT (s := (f, b, lk, P, M)) (hM.out.1.below ((Below.refl _ _).alloc (Nat.le_refl _) _)) hg9 hf9 hO9 ⟨⟨rfl, rfl, rfl⟩, (y1.1.below ((Below.refl _ _).alloc (Nat.le_refl _) _)).1, (y2.1.below ((Below.refl _ _).alloc (Nat.le_refl _) _)).1⟩ (sub2 (fun g h => ⟨by have := y1.2 g h; have := hlo.out.2; omega, by have := y1.2 g h; simp only [World.size_alloc]; omega, fun e => by have := y1.2 g h; have := hlo.out.1 g e; omega⟩) (fun g h => ⟨by have := y2.2 g h; have := hlo.out.2; omega, by have := y2.2 g h; simp only [World.size_alloc]; omega, fun e => by have := y2.2 g h; have := hlo.out.1 g e; omega⟩))
            replace hF := (hF.other (.cells #[.int .i64 f, .int .i64 b, .slice oy1 P.length cy1, .int .i64 lk, .slice oy2 M.length cy2] 64)).grownQ hg9 (fun g' hg => by have := hM.out.1.cv.ge g' hg; have := hM.out.1.lo; omega) (fun p hp e => by have := hM.out.1.cv.ge _ e; have := hM.out.1.lo; simp only [List.mem_cons, List.not_mem_nil, or_false] at hp; subst hp; dsimp only at this; omega)
            clear q0 q1 q2 q3
            obtain ⟨q0, q1, q2, q3, q4, q5⟩ := hM2.cells hM.out.2
            dsimp only at q0 q1
            obtain ⟨a9, c9, rfl⟩ := hO9.sl
            obtain ⟨n9, hn9⟩ : ∃ n9, Hid ((rds ++ [(⟨f, b, lk, .slice oy1 P.length cy1, .slice oy2 M.length cy2⟩ : RtD)]).length = n9) := ⟨_, rfl⟩
            rw [hn9.out] at hM2 ⊢
            have HM2 := Lib.hid hM2
            clear hO9 hg9 hb9 hf9 hM2 y1 y2 o
            have o := hF.own; simp only [World.size_alloc, World.size_drew, World.size_setCell, List.mem_cons, List.not_mem_nil, or_false, forall_eq_or_imp, forall_eq, At, and_true, Nat.zero_add, Nat.reduceAdd, List.set_cons_zero, List.set_cons_succ] at o
            refine hK.out _ _ ?hs (fun hHeld => ?_)
            case hs => ((try dsimp only); exact ⟨Fb.get (by repeat (first | with_reducible exact hF | with_reducible apply Fb.drew | with_reducible apply Fb.other)) (List.mem_cons_self ..) rfl, Fb.get (by repeat (first | with_reducible exact hF | with_reducible apply Fb.drew | with_reducible apply Fb.other)) (List.mem_cons_self ..) rfl, Fb.old (by repeat (first | with_reducible exact hF | with_reducible apply Fb.drew | with_reducible apply Fb.other)) E5.out.1, Fb.old (by repeat (first | with_reducible exact hF | with_reducible apply Fb.drew | with_reducible apply Fb.other)) E5.out.2.1, Fb.old (by repeat (first | with_reducible exact hF | with_reducible apply Fb.drew | with_reducible apply Fb.other)) E5.out.2.2.1, Fb.old (by repeat (first | with_reducible exact hF | with_reducible apply Fb.drew | with_reducible apply Fb.other)) E5.out.2.2.2.1, Fb.old (by repeat (first | with_reducible exact hF | with_reducible apply Fb.drew | with_reducible apply Fb.other)) E5.out.2.2.2.2⟩)
            clear hK KK
            (try simp only [Act.put, List.setIfInBounds_toArray, List.set_cons_zero, List.set_cons_succ])
            refine wpAnyH_take (i := 19) (oi := _) (v := ?_) (by simp only [List.getElem?_toArray, List.getElem?_cons_succ, List.getElem?_cons_zero]; rfl) (by kernel_rfl) (by kernel_rfl) (by kernel_rfl) (by exact fun _ _ _ h => h) (Or.inl ⟨by rfl, ?hy⟩) (by assumption) ?_
            case hy => (intro w hSw; (try dsimp only at hSw); go_simp; (try with_reducible rfl))
            (try simp only [Act.put, List.setIfInBounds_toArray, List.set_cons_zero, List.set_cons_succ])
            refine wpAnyH_take (i := 20) (oi := _) (v := ?_) (by simp only [List.getElem?_toArray, List.getElem?_cons_succ, List.getElem?_cons_zero]; rfl) (by kernel_rfl) (by kernel_rfl) (by kernel_rfl) (by exact fun _ _ _ h => h) (Or.inl ⟨by rfl, ?hy⟩) (by assumption) ?_
            case hy => (intro w hSw; (try dsimp only at hSw); go_simp; (try with_reducible rfl))
            (try simp only [Act.put, List.setIfInBounds_toArray, List.set_cons_zero, List.set_cons_succ])
            refine wpAnyH_ready (rs := [21]) (by kernel_rfl) (by simp) ?_
            refine AllReadyH.cons (o := _) (by simp only [List.getElem?_toArray, List.getElem?_cons_succ, List.getElem?_cons_zero]; rfl) (fun KK hK => ?_) AllReadyH.nil
            go_simp
            replace hF := hF.setAway ⟨g, m * 2 + 1, none⟩ (.slice a9 n9 c9) (by dsimp only; omega) (fun q hq => by simp only [List.mem_cons, List.not_mem_nil, or_false] at hq; subst hq; dsimp only; omega)
            have hM3 := HM2.out.put (j := 1) (x := .slice a9 n9 c9) (e := ⟨.slice au nu cu, .slice a9 n9 c9, rds ++ [⟨f, b, lk, .slice oy1 P.length cy1, .slice oy2 M.length cy2⟩]⟩) hM.out.2 (by decide) rfl
            refine hK.out _ _ ?hs (fun hHeld => ?_)
            case hs => ((try dsimp only); exact ⟨Fb.get (by repeat (first | with_reducible exact hF | with_reducible apply Fb.drew | with_reducible apply Fb.other)) (List.mem_cons_self ..) rfl, Fb.get (by repeat (first | with_reducible exact hF | with_reducible apply Fb.drew | with_reducible apply Fb.other)) (List.mem_cons_self ..) rfl, Fb.old (by repeat (first | with_reducible exact hF | with_reducible apply Fb.drew | with_reducible apply Fb.other)) E5.out.1, Fb.old (by repeat (first | with_reducible exact hF | with_reducible apply Fb.drew | with_reducible apply Fb.other)) E5.out.2.1, Fb.old (by repeat (first | with_reducible exact hF | with_reducible apply Fb.drew | with_reducible apply Fb.other)) E5.out.2.2.1, Fb.old (by repeat (first | with_reducible exact hF | with_reducible apply Fb.drew | with_reducible apply Fb.other)) E5.out.2.2.2.1, Fb.old (by repeat (first | with_reducible exact hF | with_reducible apply Fb.drew | with_reducible apply Fb.other)) E5.out.2.2.2.2⟩)
            clear hK KK
            (try simp only [Act.put, List.setIfInBounds_toArray, List.set_cons_zero, List.set_cons_succ])
            refine wpAnyH_done (by kernel_rfl) ?_ _
            have hS := Lib.hid (StC.next (k := k) (by rw [HMK.out, ct.out]; exact hM3) (by rw [HMK.out]; exact List.getElem?_set_self (List.getElem?_eq_some_iff.1 hM.out.2).1))
            clear hM3 HM2 hM q0 q1 q2 q3 o
            have o := hF.own; simp only [World.size_alloc, World.size_drew, World.size_setCell, List.mem_cons, List.not_mem_nil, or_false, forall_eq_or_imp, forall_eq, At, and_true, Nat.zero_add, Nat.reduceAdd, List.set_cons_zero, List.set_cons_succ] at o
            go_wp2_with fail
            go_roundw
            case rel => exact ⟨k + 1, by go_num, by omega, by simp only [World.size_setCell]; omega, hS, hF⟩
            case measure => simp [intOf]; omega
          ·
            go_simp
            (go_at_call 36; go_must (refine (l4Copy_any f b lk _ _ P M _ (It.below HI.out.1 (Fb.kp (W := w) (by repeat (first | with_reducible exact hF | with_reducible apply Fb.drew | with_reducible apply Fb.other)))) (It.below HI.out.2 (Fb.kp (W := w) (by repeat (first | with_reducible exact hF | with_reducible apply Fb.drew | with_reducible apply Fb.other)))) (by have := HSS.out.2.2.2.1.1; dsimp only at this; omega) (by have := HSS.out.2.2.2.2; dsimp only at this; omega)).mono ?_); rintro e wy ⟨pv9, mv9, rfl, y1, y2, hby⟩; obtain ⟨oy1, cy1, rfl, -⟩ := y1.1.1.ex; obtain ⟨oy2, cy2, rfl, -⟩ := y2.1.1.ex; have hlo := Lib.hid (And.intro hM.out.1.cv.lt hM.out.1.lo.2.2); have hsy := hby.size; simp only [World.size_drew] at hsy y1 y2; replace hF := Fb.below (by repeat (first | with_reducible exact hF | with_reducible apply Fb.drew | with_reducible apply Fb.other)) hby; replace hM := Lib.hid (And.intro (Mid.below hM.out.1 (((Below.refl _ _).drew).trans hby)) hM.out.2); clear hby o q0 q1 q2 q3; obtain ⟨q0, q1, q2, q3, q4, q5⟩ := hM.out.1.cells hM.out.2; dsimp only at q0 q1; have o := hF.own; simp only [World.size_alloc, World.size_drew, World.size_setCell, List.mem_cons, List.not_mem_nil, or_false, forall_eq_or_imp, forall_eq, At, and_true, Nat.zero_add, Nat.reduceAdd, List.set_cons_zero, List.set_cons_succ] at o)
            (try go_wp2_with fail)
            refine hK.out _ _ ?hs (fun hHeld => ?_)
            case hs => ((try dsimp only); exact ⟨Fb.get (by repeat (first | with_reducible exact hF | with_reducible apply Fb.drew | with_reducible apply Fb.other)) (List.mem_cons_self ..) rfl, Fb.get (by repeat (first | with_reducible exact hF | with_reducible apply Fb.drew | with_reducible apply Fb.other)) (List.mem_cons_self ..) rfl, Fb.old (by repeat (first | with_reducible exact hF | with_reducible apply Fb.drew | with_reducible apply Fb.other)) E5.out.1, Fb.old (by repeat (first | with_reducible exact hF | with_reducible apply Fb.drew | with_reducible apply Fb.other)) E5.out.2.1, Fb.old (by repeat (first | with_reducible exact hF | with_reducible apply Fb.drew | with_reducible apply Fb.other)) E5.out.2.2.1, Fb.old (by repeat (first | with_reducible exact hF | with_reducible apply Fb.drew | with_reducible apply Fb.other)) E5.out.2.2.2.1, Fb.old (by repeat (first | with_reducible exact hF | with_reducible apply Fb.drew | with_reducible apply Fb.other)) E5.out.2.2.2.2⟩)
            clear hK KK
            (try simp only [Act.put, List.setIfInBounds_toArray, List.set_cons_zero, List.set_cons_succ])
            refine wpAnyH_ready (rs := [6, 17]) (by kernel_rfl) (by simp) ?_
            refine AllReadyH.cons (o := _) (by simp only [List.getElem?_toArray, List.getElem?_cons_succ, List.getElem?_cons_zero]; rfl) (fun KK hK => ?_) (AllReadyH.cons (o := _) (by simp only [List.getElem?_toArray, List.getElem?_cons_succ, List.getElem?_cons_zero]; rfl) (fun KK hK => ?_) AllReadyH.nil)
            · go_simp
              refine hK.out _ _ ?hs (fun hHeld => ?_)
              case hs => ((try dsimp only); exact ⟨Fb.get (by repeat (first | with_reducible exact hF | with_reducible apply Fb.drew | with_reducible apply Fb.other)) (List.mem_cons_self ..) rfl, Fb.get (by repeat (first | with_reducible exact hF | with_reducible apply Fb.drew | with_reducible apply Fb.other)) (List.mem_cons_self ..) rfl, Fb.old (by repeat (first | with_reducible exact hF | with_reducible apply Fb.drew | with_reducible apply Fb.other)) E5.out.1, Fb.old (by repeat (first | with_reducible exact hF | with_reducible apply Fb.drew | with_reducible apply Fb.other)) E5.out.2.1, Fb.old (by repeat (first | with_reducible exact hF | with_reducible apply Fb.drew | with_reducible apply Fb.other)) E5.out.2.2.1, Fb.old (by repeat (first | with_reducible exact hF | with_reducible apply Fb.drew | with_reducible apply Fb.other)) E5.out.2.2.2.1, Fb.old (by repeat (first | with_reducible exact hF | with_reducible apply Fb.drew | with_reducible apply Fb.other)) E5.out.2.2.2.2⟩)
              clear hK KK
              (try simp only [Act.put, List.setIfInBounds_toArray, List.set_cons_zero, List.set_cons_succ])
              refine wpAnyH_ready (rs := [17]) (by kernel_rfl) (by simp) ?_
              refine AllReadyH.cons (o := _) (by simp only [List.getElem?_toArray, List.getElem?_cons_succ, List.getElem?_cons_zero]; rfl) (fun KK hK => ?_) AllReadyH.nil
              go_simp
              refine hK.out _ _ ?hs (fun hHeld => ?_)
              case hs => ((try dsimp only); exact ⟨Fb.get (by repeat (first | with_reducible exact hF | with_reducible apply Fb.drew | with_reducible apply Fb.other)) (List.mem_cons_self ..) rfl, Fb.get (by repeat (first | with_reducible exact hF | with_reducible apply Fb.drew | with_reducible apply Fb.other)) (List.mem_cons_self ..) rfl, Fb.old (by repeat (first | with_reducible exact hF | with_reducible apply Fb.drew | with_reducible apply Fb.other)) E5.out.1, Fb.old (by repeat (first | with_reducible exact hF | with_reducible apply Fb.drew | with_reducible apply Fb.other)) E5.out.2.1, Fb.old (by repeat (first | with_reducible exact hF | with_reducible apply Fb.drew | with_reducible apply Fb.other)) E5.out.2.2.1, Fb.old (by repeat (first | with_reducible exact hF | with_reducible apply Fb.drew | with_reducible apply Fb.other)) E5.out.2.2.2.1, Fb.old (by repeat (first | with_reducible exact hF | with_reducible apply Fb.drew | with_reducible apply Fb.other)) E5.out.2.2.2.2⟩)
              clear hK KK
              (try simp only [Act.put, List.setIfInBounds_toArray, List.set_cons_zero, List.set_cons_succ])
              refine wpAnyH_ready (rs := [18]) (by kernel_rfl) (by simp) ?_
              refine AllReadyH.cons (o := _) (by simp only [List.getElem?_toArray, List.getElem?_cons_succ, List.getElem?_cons_zero]; rfl) (fun KK hK => ?_) AllReadyH.nil
              refine step_app (by rfl) _ _ 30 (by rfl) 64 (.agg #[.int .i64 0, .int .i64 0, .slice none 0 0, .int .i64 0, .slice none 0 0]) 5 72 Try.underlying30 infoRt rfl (by decide) (by decide) b0 encRt _ rds rfl (hM.out.1.cv.alloc _) (⟨f, b, lk, .slice oy1 P.length cy1, .slice oy2 M.length cy2⟩ : RtD) ⟨_, 0, none⟩ 1 rfl rfl (cells_new _ _ _) (by simp [encRt, Value.oneCell']) (by have := hnt.out; omega) (by have := hM.out.1.lo; simp only [World.size_alloc]; omega) ?_
              intro v9 wz hO9 hg9 hb9 hf9
              have hsz9 := hb9.size
              simp only [World.size_alloc] at hsz9
              have hM2 := Mid.growT (s := (f, b, lk, P, M)) (hM.out.1.below ((Below.refl _ _).alloc (Nat.le_refl _) _)) hg9 hf9 hO9 ⟨⟨rfl, rfl, rfl⟩, (y1.1.below ((Below.refl _ _).alloc (Nat.le_refl _) _)).1, (y2.1.below ((Below.refl _ _).alloc (Nat.le_refl _) _)).1⟩ (sub2 (fun g h => ⟨by have := y1.2 g h; have := hlo.out.2; omega, by have := y1.2 g h; simp only [World.size_alloc]; omega, fun e => by have := y1.2 g h; have := hlo.out.1 g e; omega⟩) (fun g h => ⟨by have := y2.2 g h; have := hlo.out.2; omega, by have := y2.2 g h; simp only [World.size_alloc]; omega, fun e => by have := y2.2 g h; have := hlo.out.1 g e; omega⟩))
              replace hF := (hF.other (.cells #[.int .i64 f, .int .i64 b, .slice oy1 P.length cy1, .int .i64 lk, .slice oy2 M.length cy2] 64)).grownQ hg9 (fun g' hg => by have := hM.out.1.cv.ge g' hg; have := hM.out.1.lo; omega) (fun p hp e => by have := hM.out.1.cv.ge _ e; have := hM.out.1.lo; simp only [List.mem_cons, List.not_mem_nil, or_false] at hp; subst hp; dsimp only at this; omega)
              clear q0 q1 q2 q3
              obtain ⟨q0, q1, q2, q3, q4, q5⟩ := hM2.cells hM.out.2
              dsimp only at q0 q1
              obtain ⟨a9, c9, rfl⟩ := hO9.sl
              obtain ⟨n9, hn9⟩ : ∃ n9, Hid ((rds ++ [(⟨f, b, lk, .slice oy1 P.length cy1, .slice oy2 M.length cy2⟩ : RtD)]).length = n9) := ⟨_, rfl⟩
              rw [hn9.out] at hM2 ⊢
              have HM2 := Lib.hid hM2
              clear hO9 hg9 hb9 hf9 hM2 y1 y2 o
              have o := hF.own; simp only [World.size_alloc, World.size_drew, World.size_setCell, List.mem_cons, List.not_mem_nil, or_false, forall_eq_or_imp, forall_eq, At, and_true, Nat.zero_add, Nat.reduceAdd, List.set_cons_zero, List.set_cons_succ] at o
              refine hK.out _ _ ?hs (fun hHeld => ?_)
              case hs => ((try dsimp only); exact ⟨Fb.get (by repeat (first | with_reducible exact hF | with_reducible apply Fb.drew | with_reducible apply Fb.other)) (List.mem_cons_self ..) rfl, Fb.get (by repeat (first | with_reducible exact hF | with_reducible apply Fb.drew | with_reducible apply Fb.other)) (List.mem_cons_self ..) rfl, Fb.old (by repeat (first | with_reducible exact hF | with_reducible apply Fb.drew | with_reducible apply Fb.other)) E5.out.1, Fb.old (by repeat (first | with_reducible exact hF | with_reducible apply Fb.drew | with_reducible apply Fb.other)) E5.out.2.1, Fb.old (by repeat (first | with_reducible exact hF | with_reducible apply Fb.drew | with_reducible apply Fb.other)) E5.out.2.2.1, Fb.old (by repeat (first | with_reducible exact hF | with_reducible apply Fb.drew | with_reducible apply Fb.other)) E5.out.2.2.2.1, Fb.old (by repeat (first | with_reducible exact hF | with_reducible apply Fb.drew | with_reducible apply Fb.other)) E5.out.2.2.2.2⟩)
              clear hK KK
              (try simp only [Act.put, List.setIfInBounds_toArray, List.set_cons_zero, List.set_cons_succ])
              refine wpAnyH_take (i := 19) (oi := _) (v := ?_) (by simp only [List.getElem?_toArray, List.getElem?_cons_succ, List.getElem?_cons_zero]; rfl) (by kernel_rfl) (by kernel_rfl) (by kernel_rfl) (by exact fun _ _ _ h => h) (Or.inl ⟨by rfl, ?hy⟩) (by assumption) ?_
              case hy => (intro w hSw; (try dsimp only at hSw); go_simp; (try with_reducible rfl))
              (try simp only [Act.put, List.setIfInBounds_toArray, List.set_cons_zero, List.set_cons_succ])
              refine wpAnyH_take (i := 20) (oi := _) (v := ?_) (by simp only [List.getElem?_toArray, List.getElem?_cons_succ, List.getElem?_cons_zero]; rfl) (by kernel_rfl) (by kernel_rfl) (by kernel_rfl) (by exact fun _ _ _ h => h) (Or.inl ⟨by rfl, ?hy⟩) (by assumption) ?_
              case hy => (intro w hSw; (try dsimp only at hSw); go_simp; (try with_reducible rfl))
              (try simp only [Act.put, List.setIfInBounds_toArray, List.set_cons_zero, List.set_cons_succ])
              refine wpAnyH_ready (rs := [21]) (by kernel_rfl) (by simp) ?_
              refine AllReadyH.cons (o := _) (by simp only [List.getElem?_toArray, List.getElem?_cons_succ, List.getElem?_cons_zero]; rfl) (fun KK hK => ?_) AllReadyH.nil
              go_simp
              replace hF := hF.setAway ⟨g, m * 2 + 1, none⟩ (.slice a9 n9 c9) (by dsimp only; omega) (fun q hq => by simp only [List.mem_cons, List.not_mem_nil, or_false] at hq; subst hq; dsimp only; omega)
              have hM3 := HM2.out.put (j := 1) (x := .slice a9 n9 c9) (e := ⟨.slice au nu cu, .slice a9 n9 c9, rds ++ [⟨f, b, lk, .slice oy1 P.length cy1, .slice oy2 M.length cy2⟩]⟩) hM.out.2 (by decide) rfl
              refine hK.out _ _ ?hs (fun hHeld => ?_)
              case hs => ((try dsimp only); exact ⟨Fb.get (by repeat (first | with_reducible exact hF | with_reducible apply Fb.drew | with_reducible apply Fb.other)) (List.mem_cons_self ..) rfl, Fb.get (by repeat (first | with_reducible exact hF | with_reducible apply Fb.drew | with_reducible apply Fb.other)) (List.mem_cons_self ..) rfl, Fb.old (by repeat (first | with_reducible exact hF | with_reducible apply Fb.drew | with_reducible apply Fb.other)) E5.out.1, Fb.old (by repeat (first | with_reducible exact hF | with_reducible apply Fb.drew | with_reducible apply Fb.other)) E5.out.2.1, Fb.old (by repeat (first | with_reducible exact hF | with_reducible apply Fb.drew | with_reducible apply Fb.other)) E5.out.2.2.1, Fb.old (by repeat (first | with_reducible exact hF | with_reducible apply Fb.drew | with_reducible apply Fb.other)) E5.out.2.2.2.1, Fb.old (by repeat (first | with_reducible exact hF | with_reducible apply Fb.drew | with_reducible apply Fb.other)) E5.out.2.2.2.2⟩)
              clear hK KK
              (try simp only [Act.put, List.setIfInBounds_toArray, List.set_cons_zero, List.set_cons_succ])
              refine wpAnyH_done (by kernel_rfl) ?_ _
              have hS := Lib.hid (StC.next (k := k) (by rw [HMK.out, ct.out]; exact hM3) (by rw [HMK.out]; exact List.getElem?_set_self (List.getElem?_eq_some_iff.1 hM.out.2).1))
              clear hM3 HM2 hM q0 q1 q2 q3 o
              have o := hF.own; simp only [World.size_alloc, World.size_drew, World.size_setCell, List.mem_cons, List.not_mem_nil, or_false, forall_eq_or_imp, forall_eq, At, and_true, Nat.zero_add, Nat.reduceAdd, List.set_cons_zero, List.set_cons_succ] at o
              go_wp2_with fail
              go_roundw
              case rel => exact ⟨k + 1, by go_num, by omega, by simp only [World.size_setCell]; omega, hS, hF⟩
              case measure => simp [intOf]; omega
            · go_simp
              refine hK.out _ _ ?hs (fun hHeld => ?_)
              case hs => ((try dsimp only); exact ⟨Fb.get (by repeat (first | with_reducible exact hF | with_reducible apply Fb.drew | with_reducible apply Fb.other)) (List.mem_cons_self ..) rfl, Fb.get (by repeat (first | with_reducible exact hF | with_reducible apply Fb.drew | with_reducible apply Fb.other)) (List.mem_cons_self ..) rfl, Fb.old (by repeat (first | with_reducible exact hF | with_reducible apply Fb.drew | with_reducible apply Fb.other)) E5.out.1, Fb.old (by repeat (first | with_reducible exact hF | with_reducible apply Fb.drew | with_reducible apply Fb.other)) E5.out.2.1, Fb.old (by repeat (first | with_reducible exact hF | with_reducible apply Fb.drew | with_reducible apply Fb.other)) E5.out.2.2.1, Fb.old (by repeat (first | with_reducible exact hF | with_reducible apply Fb.drew | with_reducible apply Fb.other)) E5.out.2.2.2.1, Fb.old (by repeat (first | with_reducible exact hF | with_reducible apply Fb.drew | with_reducible apply Fb.other)) E5.out.2.2.2.2⟩)
              clear hK KK
              (try simp only [Act.put, List.setIfInBounds_toArray, List.set_cons_zero, List.set_cons_succ])
              refine wpAnyH_ready (rs := [6]) (by kernel_rfl) (by simp) ?_
              refine AllReadyH.cons (o := _) (by simp only [List.getElem?_toArray, List.getElem?_cons_succ, List.getElem?_cons_zero]; rfl) (fun KK hK => ?_) AllReadyH.nil
              go_simp
              refine hK.out _ _ ?hs (fun hHeld => ?_)
              case hs => ((try dsimp only); exact ⟨Fb.get (by repeat (first | with_reducible exact hF | with_reducible apply Fb.drew | with_reducible apply Fb.other)) (List.mem_cons_self ..) rfl, Fb.get (by repeat (first | with_reducible exact hF | with_reducible apply Fb.drew | with_reducible apply Fb.other)) (List.mem_cons_self ..) rfl, Fb.old (by repeat (first | with_reducible exact hF | with_reducible apply Fb.drew | with_reducible apply Fb.other)) E5.out.1, Fb.old (by repeat (first | with_reducible exact hF | with_reducible apply Fb.drew | with_reducible apply Fb.other)) E5.out.2.1, Fb.old (by repeat (first | with_reducible exact hF | with_reducible apply Fb.drew | with_reducible apply Fb.other)) E5.out.2.2.1, Fb.old (by repeat (first | with_reducible exact hF | with_reducible apply Fb.drew | with_reducible apply Fb.other)) E5.out.2.2.2.1, Fb.old (by repeat (first | with_reducible exact hF | with_reducible apply Fb.drew | with_reducible apply Fb.other)) E5.out.2.2.2.2⟩)
              clear hK KK
              (try simp only [Act.put, List.setIfInBounds_toArray, List.set_cons_zero, List.set_cons_succ])
              refine wpAnyH_ready (rs := [18]) (by kernel_rfl) (by simp) ?_
              refine AllReadyH.cons (o := _) (by simp only [List.getElem?_toArray, List.getElem?_cons_succ, List.getElem?_cons_zero]; rfl) (fun KK hK => ?_) AllReadyH.nil
              refine step_app (by rfl) _ _ 30 (by rfl) 64 (.agg #[.int .i64 0, .int .i64 0, .slice none 0 0, .int .i64 0, .slice none 0 0]) 5 72 Try.underlying30 infoRt rfl (by decide) (by decide) b0 encRt _ rds rfl (hM.out.1.cv.alloc _) (⟨f, b, lk, .slice oy1 P.length cy1, .slice oy2 M.length cy2⟩ : RtD) ⟨_, 0, none⟩ 1 rfl rfl (cells_new _ _ _) (by simp [encRt, Value.oneCell']) (by have := hnt.out; omega) (by have := hM.out.1.lo; simp only [World.size_alloc]; omega) ?_
              intro v9 wz hO9 hg9 hb9 hf9
              have hsz9 := hb9.size
              simp only [World.size_alloc] at hsz9
              have hM2 := Mid.growT (s := (f, b, lk, P, M)) (hM.out.1.below ((Below.refl _ _).alloc (Nat.le_refl _) _)) hg9 hf9 hO9 ⟨⟨rfl, rfl, rfl⟩, (y1.1.below ((Below.refl _ _).alloc (Nat.le_refl _) _)).1, (y2.1.below ((Below.refl _ _).alloc (Nat.le_refl _) _)).1⟩ (sub2 (fun g h => ⟨by have := y1.2 g h; have := hlo.out.2; omega, by have := y1.2 g h; simp only [World.size_alloc]; omega, fun e => by have := y1.2 g h; have := hlo.out.1 g e; omega⟩) (fun g h => ⟨by have := y2.2 g h; have := hlo.out.2; omega, by have := y2.2 g h; simp only [World.size_alloc]; omega, fun e => by have := y2.2 g h; have := hlo.out.1 g e; omega⟩))
              replace hF := (hF.other (.cells #[.int .i64 f, .int .i64 b, .slice oy1 P.length cy1, .int .i64 lk, .slice oy2 M.length cy2] 64)).grownQ hg9 (fun g' hg => by have := hM.out.1.cv.ge g' hg; have := hM.out.1.lo; omega) (fun p hp e => by have := hM.out.1.cv.ge _ e; have := hM.out.1.lo; simp only [List.mem_cons, List.not_mem_nil, or_false] at hp; subst hp; dsimp only at this; omega)
              clear q0 q1 q2 q3
              obtain ⟨q0, q1, q2, q3, q4, q5⟩ := hM2.cells hM.out.2
              dsimp only at q0 q1
              obtain ⟨a9, c9, rfl⟩ := hO9.sl
              obtain ⟨n9, hn9⟩ : ∃ n9, Hid ((rds ++ [(⟨f, b, lk, .slice oy1 P.length cy1, .slice oy2 M.length cy2⟩ : RtD)]).length = n9) := ⟨_, rfl⟩
              rw [hn9.out] at hM2 ⊢
              have HM2 := Lib.hid hM2
              clear hO9 hg9 hb9 hf9 hM2 y1 y2 o
              have o := hF.own; simp only [World.size_alloc, World.size_drew, World.size_setCell, List.mem_cons, List.not_mem_nil, or_false, forall_eq_or_imp, forall_eq, At, and_true, Nat.zero_add, Nat.reduceAdd, List.set_cons_zero, List.set_cons_succ] at o
              refine hK.out _ _ ?hs (fun hHeld => ?_)
              case hs => ((try dsimp only); exact ⟨Fb.get (by repeat (first | with_reducible exact hF | with_reducible apply Fb.drew | with_reducible apply Fb.other)) (List.mem_cons_self ..) rfl, Fb.get (by repeat (first | with_reducible exact hF | with_reducible apply Fb.drew | with_reducible apply Fb.other)) (List.mem_cons_self ..) rfl, Fb.old (by repeat (first | with_reducible exact hF | with_reducible apply Fb.drew | with_reducible apply Fb.other)) E5.out.1, Fb.old (by repeat (first | with_reducible exact hF | with_reducible apply Fb.drew | with_reducible apply Fb.other)) E5.out.2.1, Fb.old (by repeat (first | with_reducible exact hF | with_reducible apply Fb.drew | with_reducible apply Fb.other)) E5.out.2.2.1, Fb.old (by repeat (first | with_reducible exact hF | with_reducible apply Fb.drew | with_reducible apply Fb.other)) E5.out.2.2.2.1, Fb.old (by repeat (first | with_reducible exact hF | with_reducible apply Fb.drew | with_reducible apply Fb.other)) E5.out.2.2.2.2⟩)
              clear hK KK
              (try simp only [Act.put, List.setIfInBounds_toArray, List.set_cons_zero, List.set_cons_succ])
              refine wpAnyH_take (i := 19) (oi := _) (v := ?_) (by simp only [List.getElem?_toArray, List.getElem?_cons_succ, List.getElem?_cons_zero]; rfl) (by kernel_rfl) (by kernel_rfl) (by kernel_rfl) (by exact fun _ _ _ h => h) (Or.inl ⟨by rfl, ?hy⟩) (by assumption) ?_
              case hy => (intro w hSw; (try dsimp only at hSw); go_simp; (try with_reducible rfl))
              (try simp only [Act.put, List.setIfInBounds_toArray, List.set_cons_zero, List.set_cons_succ])
              refine wpAnyH_take (i := 20) (oi := _) (v := ?_) (by simp only [List.getElem?_toArray, List.getElem?_cons_succ, List.getElem?_cons_zero]; rfl) (by kernel_rfl) (by kernel_rfl) (by kernel_rfl) (by exact fun _ _ _ h => h) (Or.inl ⟨by rfl, ?hy⟩) (by assumption) ?_
              case hy => (intro w hSw; (try dsimp only at hSw); go_simp; (try with_reducible rfl))
              (try simp only [Act.put, List.setIfInBounds_toArray, List.set_cons_zero, List.set_cons_succ])
              refine wpAnyH_ready (rs := [21]) (by kernel_rfl) (by simp) ?_
              refine AllReadyH.cons (o := _) (by simp only [List.getElem?_toArray, List.getElem?_cons_succ, List.getElem?_cons_zero]; rfl) (fun KK hK => ?_) AllReadyH.nil
              go_simp
              replace hF := hF.setAway ⟨g, m * 2 + 1, none⟩ (.slice a9 n9 c9) (by dsimp only; omega) (fun q hq => by simp only [List.mem_cons, List.not_mem_nil, or_false] at hq; subst hq; dsimp only; omega)
              have hM3 := HM2.out.put (j := 1) (x := .slice a9 n9 c9) (e := ⟨.slice au nu cu, .slice a9 n9 c9, rds ++ [⟨f, b, lk, .slice oy1 P.length cy1, .slice oy2 M.length cy2⟩]⟩) hM.out.2 (by decide) rfl
              refine hK.out _ _ ?hs (fun hHeld => ?_)
              case hs => ((try dsimp only); exact ⟨Fb.get (by repeat (first | with_reducible exact hF | with_reducible apply Fb.drew | with_reducible apply Fb.other)) (List.mem_cons_self ..) rfl, Fb.get (by repeat (first | with_reducible exact hF | with_reducible apply Fb.drew | with_reducible apply Fb.other)) (List.mem_cons_self ..) rfl, Fb.old (by repeat (first | with_reducible exact hF | with_reducible apply Fb.drew | with_reducible apply Fb.other)) E5.out.1, Fb.old (by repeat (first | with_reducible exact hF | with_reducible apply Fb.drew | with_reducible apply Fb.other)) E5.out.2.1, Fb.old (by repeat (first | with_reducible exact hF | with_reducible apply Fb.drew | with_reducible apply Fb.other)) E5.out.2.2.1, Fb.old (by repeat (first | with_reducible exact hF | with_reducible apply Fb.drew | with_reducible apply Fb.other)) E5.out.2.2.2.1, Fb.old (by repeat (first | with_reducible exact hF | with_reducible apply Fb.drew | with_reducible apply Fb.other)) E5.out.2.2.2.2⟩)
              clear hK KK
              (try simp only [Act.put, List.setIfInBounds_toArray, List.set_cons_zero, List.set_cons_succ])
              refine wpAnyH_done (by kernel_rfl) ?_ _
              have hS := Lib.hid (StC.next (k := k) (by rw [HMK.out, ct.out]; exact hM3) (by rw [HMK.out]; exact List.getElem?_set_self (List.getElem?_eq_some_iff.1 hM.out.2).1))
              clear hM3 HM2 hM q0 q1 q2 q3 o
              have o := hF.own; simp only [World.size_alloc, World.size_drew, World.size_setCell, List.mem_cons, List.not_mem_nil, or_false, forall_eq_or_imp, forall_eq, At, and_true, Nat.zero_add, Nat.reduceAdd, List.set_cons_zero, List.set_cons_succ] at o
              go_wp2_with fail
              go_roundw
              case rel => exact ⟨k + 1, by go_num, by omega, by simp only [World.size_setCell]; omega, hS, hF⟩
              case measure => simp [intOf]; omega
    · have hlt' : decide ((k : Int) < (NN : Int)) = false := decide_eq_false (by omega)
      have hkk : k = D.length + L.length := by have := hN1.out; have := hN2.out; omega
      have hLt := Lib.hid (hS.out.lts hkk)
      clear hkk hS
      go_wp2_with fail
      go_ret
      exact ⟨_, rfl, hLt.out, hF.kp⟩
end Go.Proofs.Ytjkfnjjkjhggfaa
