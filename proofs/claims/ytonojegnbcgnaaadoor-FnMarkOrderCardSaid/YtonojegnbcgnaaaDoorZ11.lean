/- Draws of route laws. append([]int{}, v...): a copy. A copy of a route; the draw of the comparison law. -/
import Derived.Test.YtonojegnbcgnaaaDoorZ10
set_option linter.unusedSimpArgs false
set_option linter.unusedVariables false
namespace Go.Proofs.YtonojegnbcgnaaaDoor
open Go.RowKit

/-- A row of numbers behind r, and at none of the blocks of S. -/
structure Rz (w : World) (r : Nat) (S : List Nat) (v : Value) (L : List Int) : Prop where
  it : It w v L
  lo : ∀ g, v.ownBlock = some g → r < g ∧ g < w.heap.size
  off : ∀ p ∈ S, v.ownBlock ≠ some p
theorem Rz.kp {w w' : World} {r : Nat} {S : List Nat} {v : Value} {L : List Int} (h : Rz w r S v L) (K : Kp r w w') : Rz w' r S v L :=
  ⟨⟨Rows.kp h.it.1 K (B := r + 1) (fun g hg => by have := (h.lo g hg).1; omega) (Nat.lt_succ_self r), h.it.2⟩, fun g hg => ⟨(h.lo g hg).1, Nat.lt_of_lt_of_le (h.lo g hg).2 K.size⟩, h.off⟩
theorem Rz.below {w w' : World} {r : Nat} {S : List Nat} {v : Value} {L : List Int} (h : Rz w r S v L) (K : Below w.heap.size w w') : Rz w' r S v L :=
  ⟨h.it.below K, fun g hg => ⟨(h.lo g hg).1, Nat.lt_of_lt_of_le (h.lo g hg).2 K.size⟩, h.off⟩
theorem Rz.alloc {w : World} {r : Nat} {S : List Nat} {v : Value} {L : List Int} (h : Rz w r S v L) (o : Obj) : Rz (w.alloc o) r (w.heap.size :: S) v L :=
  have h' := h.below ((Below.refl _ _).alloc (Nat.le_refl _) o)
  ⟨h'.it, h'.lo, fun p hp e => by
    rcases List.mem_cons.1 hp with rfl | hp
    · have := (h.lo _ e).2; omega
    · exact h.off p hp e⟩
theorem Rz.drew {w : World} {r : Nat} {S : List Nat} {v : Value} {L : List Int} (h : Rz w r S v L) : Rz w.drew r S v L := h.below (Below.refl _ _).drew
theorem Rz.set {w : World} {r : Nat} {S : List Nat} {v : Value} {L : List Int} (h : Rz w r S v L) {p : Addr} (hp : p.block ∈ S) (u : Value) : Rz (w.setCell p u) r S v L :=
  ⟨⟨Rows.setO h.it.1 (h.off _ hp) u, h.it.2⟩, fun g hg => by simp only [World.size_setCell]; exact h.lo g hg, h.off⟩
theorem Lies.rz {w : World} {lo r : Nat} {v : Value} {L : List Int} (h : Lies w lo v L) (hr : r ≤ lo) (S : List Nat) (hS : ∀ p ∈ S, p ≤ lo) : Rz w r S v L :=
  ⟨h.1, fun g hg => ⟨Nat.lt_of_le_of_lt hr (h.2 g hg).1, (h.2 g hg).2⟩, fun p hp e => by have := h.2 _ e; have := hS p hp; omega⟩
theorem put5 {r n : Nat} {W w : World} {z0 z1 z2 z3 z4 : Value} {L : List (Nat × List Value)} (hF : Fr r W w ((n, [z0, z1, z2, z3, z4]) :: L)) (hL : ∀ q ∈ L, q.1 ≠ n) (u0 u1 u2 u3 u4 : Value) :
    ∃ w', w' = ((((w.setCell ⟨n, 0, none⟩ u0).setCell ⟨n, 1, none⟩ u1).setCell ⟨n, 2, none⟩ u2).setCell ⟨n, 3, none⟩ u3).setCell ⟨n, 4, none⟩ u4 ∧ Fr r W w' ((n, [u0, u1, u2, u3, u4]) :: L) ∧ ∀ S v K, n ∈ S → Rz w r S v K → Rz w' r S v K :=
  ⟨_, rfl, ((((hF.set 0 u0 (by simp) hL).set 1 u1 (by simp) hL).set 2 u2 (by simp) hL).set 3 u3 (by simp) hL).set 4 u4 (by simp) hL,
   fun S v K hn h => ((((h.set (p := ⟨n, 0, none⟩) hn u0).set (p := ⟨n, 1, none⟩) hn u1).set (p := ⟨n, 2, none⟩) hn u2).set (p := ⟨n, 3, none⟩) hn u3).set (p := ⟨n, 4, none⟩) hn u4⟩
set_option maxHeartbeats 2000000 in
theorem drawRouteText_any (v : Value) (w : World) (h : Given w v) :
    Calls Tryd.prog 19 #[v] w fun e w' => ∃ (f b lk : Int) (pv mv : Value) (P M : List Int), e = .returned (.agg #[.int .i64 f, .int .i64 b, pv, .int .i64 lk, mv]) ∧ It w' pv P ∧ It w' mv M ∧ P.length ≤ 4 ∧ M.length ≤ 10 ∧ Below w.heap.size w w' := by
  have hF := (Fr.start (w.heap.size + 1) w).alloc' [.int .i64 0, .int .i64 0, .slice none 0 0, .int .i64 0, .slice none 0 0] 27 (by omega)
  have hG := h.alloc (.cells #[.int .i64 0, .int .i64 0, .slice none 0 0, .int .i64 0, .slice none 0 0] 27)
  obtain ⟨n2, hn2⟩ : ∃ n, w.heap.size = n := ⟨_, rfl⟩
  go_enter Tryd.func19, Tryd.ntmps19
  go_wp2_with fail
  refine (open_any v _ hG).mono ?_; rintro e w1 ⟨rfl, hR, hb1⟩
  simp only [World.size_alloc, hn2] at hR hF
  have hr1 := hR.lt
  replace hF := hF.below hb1
  clear hG hb1
  go_wp2_with fail
  refine (l91Route_any _ 0 _ hR (by omega)).mono ?_; rintro e w2 ⟨f, b, lk, pv, mv, P, M, rfl, hP, hM, hP4, hM9, -, -, -, hK⟩
  replace hP4 := hP4.1
  replace hF := hF.call hK
  have hP' := hP.rz (r := n2 + 1) (by omega) [n2] (by simp; omega)
  have hM' := hM.rz (r := n2 + 1) (by omega) [n2] (by simp; omega)
  clear hK hR hP hM
  obtain ⟨o1, c1, rfl, -⟩ := hP'.it.1.ex
  obtain ⟨o2, c2, rfl, -⟩ := hM'.it.1.ex
  have o := hF.own; simp only [World.size_alloc, World.size_drew, World.size_setCell, List.mem_cons, List.not_mem_nil, or_false, forall_eq_or_imp, forall_eq, At, and_true, Nat.zero_add, Nat.reduceAdd, List.set_cons_zero, List.set_cons_succ] at o
  go_wp2_with fail
  obtain ⟨wz, hwz, e1, e2⟩ := put5 hF (by simp) (.int .i64 f) (.int .i64 b) (.slice o1 P.length c1) (.int .i64 lk) (.slice o2 M.length c2)
  rw [← hwz]
  clear hwz o hF
  have hF := e1
  have o := hF.own; simp only [World.size_alloc, World.size_drew, World.size_setCell, List.mem_cons, List.not_mem_nil, or_false, forall_eq_or_imp, forall_eq, At, and_true, Nat.zero_add, Nat.reduceAdd, List.set_cons_zero, List.set_cons_succ] at o
  refine bodyPost_ret (v := .agg #[.int .i64 f, .int .i64 b, .slice o1 P.length c1, .int .i64 lk, .slice o2 M.length c2]) ?_ rfl ?_
  · simp [results, Tryd.results19, go_sem, o]
  · exact ⟨f, b, lk, _, _, P, M, rfl, (e2 _ _ _ (by simp) hP').it, (e2 _ _ _ (by simp) hM').it, hP4, hM9, e1.kp.below (by omega) (Nat.le_refl _)⟩
end Go.Proofs.YtonojegnbcgnaaaDoor
set_option linter.unusedSimpArgs false
set_option linter.unusedVariables false
namespace Go.Proofs.YtonojegnbcgnaaaDoor
open Go Go.RowKit

theorem run_app_nil {P : Program} (w : World) (t ty E : TypeId) (i : TypeInfo) (ht : P.underlying t = some (.slice E)) (hi : P.info? E = some i) (g : Nat) :
    (Builtin.append_ #[t, t] ty #[.slice (some ⟨g, 0, none⟩) 0 0, .slice none 0 0]).run P w = .ok (.slice (some ⟨g, 0, none⟩) 0 0) w := by
  simp [Builtin.append_, run_underlying ht, sizeOf, typeInfo, hi, Builtin.lenOf, Builtin.firstCells, loadCells, loadCellsFrom, storeCells, Result.andThen]
theorem wpList_copy {P : Program} {ops : Array Oper} {rest : List Oper} {o : Oper} {a : Act} {w : World} {Q : Exit → Act → World → Prop} (hgd : o.guard = none) (s x : Operand) (t : TypeId)
    (ho : o.op = .call { callee := .builtin .append, args := #[s, x], argTypes := #[t, t] })
    (E : TypeId) (z : Value) (bytes : Nat) (ht : P.underlying t = some (.slice E)) (hI : (P.info? E).map (fun i => (i.zero, i.size, i.bytes)) = some (some z, 1, bytes)) (hzs : z.cells.size = 1) (hby : bytes ≤ 1000)
    (hs : a.eval s = .slice (some ⟨w.heap.size, 0, none⟩) 0 0) (v : Value) (K : List Int) (hx : a.eval x = v) (hK : It w v K) (hlen : K.length ≤ 1000000)
    (h : ∀ g c w', Own E w' w.heap.size (.slice (some ⟨g, 0, none⟩) K.length c) 1 encI K → Below w.heap.size w w' → wpList P ops Q rest (a.put o.dst (.slice (some ⟨g, 0, none⟩) K.length c)) w') : wpList P ops Q (o :: rest) a (w.alloc (.cells #[] E)) := by
  have hb0 := (Below.refl w.heap.size w).alloc (Nat.le_refl _) (.cells #[] E)
  have hO := Own.made (B := w.heap.size) E w 1 encI (Nat.le_refl _)
  have hI2 := hK.below hb0
  rcases hI2.2 with rfl | ⟨b, off, n, c, rfl⟩
  · have hk : K = [] := by
      obtain ⟨ao, cap, e, _⟩ := hI2.1.ex
      injection e with _ e
      exact List.length_eq_zero_iff.1 e.symm
    subst hk
    obtain ⟨i, hi, hz, hsize, hbytes⟩ := info_parts hI
    refine wpList_plain hgd fun K' hK' => ?_
    unfold Oper.wp execOp
    simp only [ho, resolve, invoke, builtin, Sem.run_bind, Sem.run_pure, Result.andThen_ok, List.map_toArray, List.map_cons, List.map_nil, hs, hx, run_app_nil _ t _ E i ht hi]
    exact hK' _ _ (h _ _ _ hO hb0)
  · refine wpList_apps hgd s x t ho E z 1 bytes ht hI hzs (by decide) hby w.heap.size encI (fun _ => rfl) (fun _ u hu => by simp [encI] at hu; subst hu; rfl) _ [] hs hO b off n c K hx hI2.1 (by
      obtain ⟨ao, cap, e, _⟩ := hI2.1.ex
      injection e with _ e; simp; omega) (by simp) fun v' w' h1 h2 h3 h4 h5 => ?_
    rw [List.nil_append] at h1
    rcases h1.two with ⟨q, -⟩ | ⟨g, cc, m, rfl, -, hm⟩
    · have := (h5.1 q).1; cases this
    · have hm' := hm.out
      subst hm'
      exact h _ _ _ h1 (hb0.trans h3)
end Go.Proofs.YtonojegnbcgnaaaDoor
set_option linter.unusedSimpArgs false
set_option linter.unusedVariables false
namespace Go.Proofs.YtonojegnbcgnaaaDoor
open Go.RowKit

theorem Own.put5 {n : Nat} {E : TypeId} {w : World} {B : Nat} {v : Value} {L : List Int} (h : Own E w B v 1 encI L) (hn : n < B) (u0 u1 u2 u3 u4 : Value) :
    Own E (((((w.setCell ⟨n, 0, none⟩ u0).setCell ⟨n, 1, none⟩ u1).setCell ⟨n, 2, none⟩ u2).setCell ⟨n, 3, none⟩ u3).setCell ⟨n, 4, none⟩ u4) B v 1 encI L :=
  ((((h.set (a := ⟨n, 0, none⟩) hn u0).set (a := ⟨n, 1, none⟩) hn u1).set (a := ⟨n, 2, none⟩) hn u2).set (a := ⟨n, 3, none⟩) hn u3).set (a := ⟨n, 4, none⟩) hn u4
theorem Own.lies {E : TypeId} {w : World} {B lo : Nat} {v : Value} {L : List Int} (h : Own E w B v 1 encI L) (hl : lo < B) : Lies w lo v L := ⟨h.it, fun g hg => ⟨Nat.lt_of_lt_of_le hl (h.ge g hg), h.lt g hg⟩⟩
theorem Fr.swap {r : Nat} {W w : World} {x y : Nat × List Value} {L : List (Nat × List Value)} (h : Fr r W w (x :: y :: L)) : Fr r W w (y :: x :: L) := h.sub fun p hp => by
  simp only [List.mem_cons] at hp ⊢
  rcases hp with h | h | h <;> simp [h]
set_option maxHeartbeats 2000000 in
theorem l4Copy_any (f b lk : Int) (pv mv : Value) (P M : List Int) (w : World) (hp : It w pv P) (hm : It w mv M) (hP : P.length ≤ 1000) (hM : M.length ≤ 1000) :
    Calls Tryd.prog 40 #[.agg #[.int .i64 f, .int .i64 b, pv, .int .i64 lk, mv]] w fun e w' => ∃ (pv' mv' : Value), e = .returned (.agg #[.int .i64 f, .int .i64 b, pv', .int .i64 lk, mv']) ∧ Lies w' w.heap.size pv' P ∧ Lies w' w.heap.size mv' M ∧ Below w.heap.size w w' := by
  obtain ⟨o1, c1, rfl, -⟩ := hp.1.ex
  obtain ⟨o2, c2, rfl, -⟩ := hm.1.ex
  obtain ⟨n, hn⟩ : ∃ n, Hid (P.length = n) := ⟨_, rfl⟩
  obtain ⟨m, hm0⟩ : ∃ m, Hid (M.length = m) := ⟨_, rfl⟩
  rw [hn.out] at hp ⊢
  rw [hm0.out] at hm ⊢
  have HP := Lib.hid hp
  have HM := Lib.hid hm
  clear hp hm
  have hF := ((Fr.start (w.heap.size + 2) w).alloc' [.int .i64 f, .int .i64 b, .slice o1 n c1, .int .i64 lk, .slice o2 m c2] 27 (by omega)).alloc' [.int .i64 0, .int .i64 0, .slice none 0 0, .int .i64 0, .slice none 0 0] 27 (by simp)
  simp only [World.size_alloc] at hF
  obtain ⟨n1, hn1⟩ : ∃ n, w.heap.size = n := ⟨_, rfl⟩
  have hsz : ((w.alloc (.cells #[.int .i64 f, .int .i64 b, .slice o1 n c1, .int .i64 lk, .slice o2 m c2] 27)).alloc (.cells #[.int .i64 0, .int .i64 0, .slice none 0 0, .int .i64 0, .slice none 0 0] 27)).heap.size = n1 + 2 := by simp [hn1]
  rw [hn1] at hF
  have hp1 := HP.out.below (hF.kp.below (B := w.heap.size) (by omega) (Nat.le_refl _))
  have tok1 : True := trivial
  have o := hF.own; simp only [World.size_alloc, World.size_drew, World.size_setCell, List.mem_cons, List.not_mem_nil, or_false, forall_eq_or_imp, forall_eq, At, and_true, Nat.zero_add, Nat.reduceAdd, List.set_cons_zero, List.set_cons_succ] at o
  go_enter Tryd.func40, Tryd.ntmps40
  go_wp2_with (first
    | (at_builtin; clear tok1; refine wpList_copy rfl _ _ 25 rfl 3 (.int .i64 0) 8 Tryd.underlying25 infoInt rfl (by decide) (by show Value.slice (some ⟨_, 0, none⟩) 0 0 = Value.slice (some ⟨_, 0, none⟩) 0 0; simp only [hsz]) (.slice o1 n c1) P rfl hp1 (by omega) ?_; intro g1 k1 w1 hO1 hb1; rw [hsz] at hO1; have hs1 := hb1.size; rw [hsz] at hs1; replace hF := hF.below hb1; clear o; have o := hF.own; simp only [World.size_alloc, World.size_drew, World.size_setCell, List.mem_cons, List.not_mem_nil, or_false, forall_eq_or_imp, forall_eq, At, and_true, Nat.zero_add, Nat.reduceAdd, List.set_cons_zero, List.set_cons_succ] at o; clear hb1)
    | (at_builtin; have hF2 := hF.swap.set 2 (.slice (some ⟨g1, 0, none⟩) P.length k1) (by simp) (by simp); refine wpList_copy rfl _ _ 25 rfl 3 (.int .i64 0) 8 Tryd.underlying25 infoInt rfl (by decide) (by show Value.slice (some ⟨_, 0, none⟩) 0 0 = Value.slice (some ⟨_, 0, none⟩) 0 0; simp only [World.size_setCell]) (.slice o2 m c2) M rfl (HM.out.below (hF2.kp.below (B := w.heap.size) (by omega) (Nat.le_refl _))) (by omega) ?_; intro g2 k2 w2 hO2 hb2; replace hO1 := (hO1.set (a := ⟨n1, 2, none⟩) (by dsimp only; omega) (.slice (some ⟨g1, 0, none⟩) P.length k1)).below hb2; simp only [World.size_setCell] at hO2; replace hF := hF2.below hb2; clear hF2 o hb2; have o := hF.own; simp only [World.size_alloc, World.size_drew, World.size_setCell, List.mem_cons, List.not_mem_nil, or_false, forall_eq_or_imp, forall_eq, At, and_true, Nat.zero_add, Nat.reduceAdd, List.set_cons_zero, List.set_cons_succ] at o))
  have hF2 := (hF.set 4 (.slice (some ⟨g2, 0, none⟩) M.length k2) (by simp) (by simp)).swap
  replace hO1 := hO1.set (a := ⟨n1, 4, none⟩) (by dsimp only; omega) (.slice (some ⟨g2, 0, none⟩) M.length k2)
  replace hO2 := hO2.set (a := ⟨n1, 4, none⟩) (by dsimp only; omega) (.slice (some ⟨g2, 0, none⟩) M.length k2)
  obtain ⟨wz, hwz, e1, -⟩ := put5 hF2 (by simp) (.int .i64 f) (.int .i64 b) (.slice (some ⟨g1, 0, none⟩) P.length k1) (.int .i64 lk) (.slice (some ⟨g2, 0, none⟩) M.length k2)
  replace hO1 := hO1.put5 (n := n1 + 1) (by omega) (.int .i64 f) (.int .i64 b) (.slice (some ⟨g1, 0, none⟩) P.length k1) (.int .i64 lk) (.slice (some ⟨g2, 0, none⟩) M.length k2)
  replace hO2 := hO2.put5 (n := n1 + 1) (by omega) (.int .i64 f) (.int .i64 b) (.slice (some ⟨g1, 0, none⟩) P.length k1) (.int .i64 lk) (.slice (some ⟨g2, 0, none⟩) M.length k2)
  rw [← hwz] at hO1 hO2 ⊢
  clear hwz o hF hF2
  have hF := e1
  have o := hF.own; simp only [World.size_alloc, World.size_drew, World.size_setCell, List.mem_cons, List.not_mem_nil, or_false, forall_eq_or_imp, forall_eq, At, and_true, Nat.zero_add, Nat.reduceAdd, List.set_cons_zero, List.set_cons_succ] at o
  refine bodyPost_ret (v := .agg #[.int .i64 f, .int .i64 b, .slice (some ⟨g1, 0, none⟩) P.length k1, .int .i64 lk, .slice (some ⟨g2, 0, none⟩) M.length k2]) ?_ rfl ?_
  · simp [results, Tryd.results40, go_sem, o]
  · exact ⟨_, _, rfl, hO1.lies (by omega), hO2.lies (by omega), e1.kp.below (by omega) (Nat.le_refl _)⟩
end Go.Proofs.YtonojegnbcgnaaaDoor
