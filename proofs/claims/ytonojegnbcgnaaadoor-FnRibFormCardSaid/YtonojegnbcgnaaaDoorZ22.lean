/- The draw of the law on ribs. Routes by range: the program's RoutesOk. -/
import Derived.Test.YtonojegnbcgnaaaDoorZ21
import Derived.Test.YtonojegnbcgnaaaDoorZ14
import Derived.Test.YtonojegnbcgnaaaDoorZ10
set_option linter.unusedSimpArgs false
set_option linter.unusedVariables false
namespace Go.Proofs.YtonojegnbcgnaaaDoor
open Go.RowKit

theorem GRel.farQ {δ β : Type} {S : Sh δ β} {w w' : World} {B U n : Nat} {v : Value} {ds : List δ} {L : List β} (h : GRel S w B U v ds L) (hg : w.grownBy w' (some n)) (hs : ∀ d ∈ ds, ∀ u ∈ S.subs d, u.ownBlock ≠ some n) : GRel S w' B U v ds L := ⟨h.1, fun k s hk => by
  obtain ⟨d, a, b, c⟩ := h.2 k s hk
  exact ⟨d, a, S.keep hg (fun u hu g hg' e => hs d (List.mem_of_getElem? a) u hu (by rw [hg', e])) b, c⟩⟩
/-- One's own growing row, behind which lies a block n that is neither the row nor held by it. -/
def GQ {δ β : Type} (S : Sh δ β) (E : TypeId) (w : World) (R n : Nat) (v : Value) (L : List β) : Prop := ∃ ds, Own E w R v S.sz S.enc ds ∧ GRel S w R w.heap.size v ds L ∧ v.ownBlock ≠ some n ∧ ∀ d ∈ ds, ∀ u ∈ S.subs d, u.ownBlock ≠ some n
section
variable {δ β : Type} {S : Sh δ β} {E : TypeId} {w w' : World} {R n : Nat} {v : Value} {L : List β}
theorem GOwn.gq (h : GOwn S E w R v L) (o : Obj) : GQ S E (w.alloc o) R w.heap.size v L := by
  obtain ⟨ds, h1, h2⟩ := h
  have h3 := h1.lt
  refine ⟨ds, h1.alloc _, (h2.below ((Below.refl _ _).alloc (Nat.le_refl _) _)).mono (Nat.le_refl _) (by simp only [World.size_alloc]; omega), fun e => by have := h3 _ e; omega, fun d hd u hu e => ?_⟩
  obtain ⟨k, hk, ek⟩ := List.mem_iff_getElem.1 hd
  obtain ⟨s, hs⟩ := get_lt (L := L) (k := k) (by rw [← h2.1]; exact hk)
  obtain ⟨d', a, -, c⟩ := h2.2 k s hs
  rw [List.getElem?_eq_getElem hk, ek] at a
  injection a with a
  subst a
  have := (c u hu).2 _ e
  omega
theorem GQ.kp {r : Nat} (h : GQ S E w R n v L) (K : Kp r w w') (hr : r < R) : GQ S E w' R n v L := by
  obtain ⟨ds, h1, h2, h3, h4⟩ := h
  exact ⟨ds, h1.kp K hr, (h2.kp K hr).mono (Nat.le_refl _) K.size, h3, h4⟩
theorem GQ.drew (h : GQ S E w R n v L) : GQ S E w.drew R n v L := by
  obtain ⟨ds, h1, h2, h3, h4⟩ := h
  exact ⟨ds, h1.below (Below.refl _ _).drew, h2.below (Below.refl _ _).drew, h3, h4⟩
theorem GQ.put (h : GQ S E w R n v L) {p : Addr} (hp : p.block = n) (u : Value) : GQ S E (w.setCell p u) R n v L := by
  obtain ⟨ds, h1, h2, h3, h4⟩ := h
  subst hp
  exact ⟨ds, h1.put' (E' := E) h3 u, by simp only [World.size_setCell]; exact h2.farQ (grown_setC w p u) h4, h3, h4⟩
theorem GQ.gown (h : GQ S E w R n v L) : GOwn S E w R v L := by
  obtain ⟨ds, h1, h2, -, -⟩ := h
  exact ⟨ds, h1, h2⟩
theorem GQ.sl (h : GQ S E w R n v L) : ∃ ao cap, v = .slice ao L.length cap := h.gown.sl
theorem GQ.lt (h : GQ S E w R n v L) : ∀ g, v.ownBlock = some g → g < w.heap.size := h.gown.lt
end
theorem gq_snoc {E : TypeId} {w0 w w' : World} {R n : Nat} {v v' : Value} {ds : List GtD} {L : List Gt} {d : GtD} {s : Gt} (h : GRel shGt w0 R w0.heap.size v ds L) (K : Below w0.heap.size w0 w) (hO : Own E w' R v' 6 encGt (ds ++ [d])) (hg : w.grownBy w' v.ownBlock) (hf : Frsh w v v') (hd : shGt.rd w d s) (hv : v.ownBlock ≠ some n) (hn : n < w.heap.size) (hq : ∀ d ∈ ds, ∀ u ∈ shGt.subs d, u.ownBlock ≠ some n) (hs : ∀ u ∈ shGt.subs d, Apart u v ∧ ∀ g, u.ownBlock = some g → (R ≤ g ∧ g < w.heap.size) ∧ g ≠ n) : GQ shGt E w' R n v' (L ++ [s]) :=
  ⟨_, hO, GRel.snoc h (Nat.le_refl _) K hg hf hd (fun u hu => ⟨(hs u hu).1, fun g hg => ((hs u hu).2 g hg).1⟩), frsh_off hf hv hn, fun x hx u hu e => by
    rcases List.mem_append.1 hx with hx | hx
    · exact hq x hx u hu e
    · rw [List.mem_singleton.1 hx] at hu
      exact ((hs u hu).2 _ e).2 rfl⟩
theorem sub3 {u v s : Value} {B U n : Nat} (h1 : ∀ g, u.ownBlock = some g → B ≤ g ∧ g < U ∧ g ≠ n ∧ s.ownBlock ≠ some g) (h2 : ∀ g, v.ownBlock = some g → B ≤ g ∧ g < U ∧ g ≠ n ∧ s.ownBlock ≠ some g) : ∀ x ∈ [u, v], Apart x s ∧ ∀ g, x.ownBlock = some g → (B ≤ g ∧ g < U) ∧ g ≠ n := fun x hx => by
  simp only [List.mem_cons, List.not_mem_nil, or_false] at hx
  rcases hx with rfl | rfl
  · exact ⟨fun g a b => (h1 g a).2.2.2 b, fun g a => ⟨⟨(h1 g a).1, (h1 g a).2.1⟩, (h1 g a).2.2.1⟩⟩
  · exact ⟨fun g a b => (h2 g a).2.2.2 b, fun g a => ⟨⟨(h2 g a).1, (h2 g a).2.1⟩, (h2 g a).2.2.1⟩⟩
theorem Lies.kp {w w' : World} {lo r : Nat} {v : Value} {L : List Int} (h : Lies w lo v L) (K : Kp r w w') (hr : r ≤ lo) : Lies w' lo v L :=
  ⟨⟨Rows.kp h.1.1 K (B := r + 1) (fun g hg => by have := (h.2 g hg).1; omega) (Nat.lt_succ_self r), h.1.2⟩, fun g hg => ⟨(h.2 g hg).1, Nat.lt_of_lt_of_le (h.2 g hg).2 K.size⟩⟩
theorem put3w {δ β : Type} {S : Sh δ β} {E : TypeId} {r n R : Nat} {W w : World} {z0 z1 z2 v : Value} {K : List β} {L : List (Nat × List Value)} (hF : Fr r W w ((n, [z0, z1, z2]) :: L)) (hL : ∀ q ∈ L, q.1 ≠ n) (hO : GOwn S E w R v K) (hB : n < R) (u0 u1 u2 : Value) :
    ∃ w', w' = ((w.setCell ⟨n, 0, none⟩ u0).setCell ⟨n, 1, none⟩ u1).setCell ⟨n, 2, none⟩ u2 ∧ Fr r W w' ((n, [u0, u1, u2]) :: L) ∧ GOwn S E w' R v K :=
  ⟨_, rfl, ((hF.set 0 u0 (by simp) hL).set 1 u1 (by simp) hL).set 2 u2 (by simp) hL, ((hO.set (a := ⟨n, 0, none⟩) hB u0).set (a := ⟨n, 1, none⟩) hB u1).set (a := ⟨n, 2, none⟩) hB u2⟩
set_option maxRecDepth 100000 in
set_option maxHeartbeats 4000000 in
theorem drawRibOk_any (v : Value) (w : World) (h : Given w v) :
    Calls Tryd.prog 24 #[v] w fun e w' => ∃ (H : Int) (up : Bool) (u : Value) (K : List Gt), e = .returned (.agg #[.int .i64 H, .bool up, u]) ∧ GOwn shGt 48 w' w.heap.size u K ∧ K.length ≤ 8 ∧ (∀ s ∈ K, SmG s) ∧ Below w.heap.size w w' := by
  have hF := (Fr.start (w.heap.size + 1) w).alloc' [.int .i64 0, .bool false, .slice none 0 0] 44 (by omega)
  have hG := h.alloc (.cells #[.int .i64 0, .bool false, .slice none 0 0] 44)
  obtain ⟨n0, hn0⟩ : ∃ n, w.heap.size = n := ⟨_, rfl⟩
  have HN := Lib.hid hn0
  go_enter Tryd.func24, Tryd.ntmps24
  go_wp2_with fail
  refine (open_any v _ hG).mono ?_; rintro e w1 ⟨rfl, hR, hb1⟩
  simp only [World.size_alloc, hn0] at hR hF
  have hr1 := hR.lt
  replace hF := hF.below hb1
  clear hG hb1
  go_wp2_with fail
  refine (pick_any _ _ _ _ hR (by omega) (by omega) (by omega)).mono ?_; rintro e w2 ⟨v2, rfl, x2, l2, hR2, hK2⟩
  replace hF := hF.call hK2
  have hs2 := hK2.size
  clear hK2 hR
  go_wp2_with fail
  refine (l92Rib_any _ _ _ _ hR2 (by omega) (by unfold Bts; omega)).mono ?_; rintro e w3 ⟨H, up, u, K, rfl, hO, hKl, hKs, ⟨k3, hk3, hR3⟩, hK3⟩
  have hs3 := hK3.size
  replace hF := hF.call hK3
  replace hO := hO.base (B := n0 + 2) (by omega)
  have HKs := Lib.hid hKs
  clear hK3 hR2 hKs
  obtain ⟨au, cu, rfl⟩ := hO.sl
  obtain ⟨nk, hnk⟩ : ∃ nk, Hid (K.length = nk) := ⟨_, rfl⟩
  rw [hnk.out] at hO hKl ⊢
  have hF3 : Fr (n0 + 1) w (w3.alloc (.cells #[.int .i64 H, .bool up, .slice au nk cu] 44)) [(w3.heap.size, [.int .i64 H, .bool up, .slice au nk cu]), (n0, [.int .i64 0, .bool false, .slice none 0 0])] := hF.alloc _ _ (by omega)
  replace hO := hO.gq (.cells #[.int .i64 H, .bool up, .slice au nk cu] 44)
  replace hR := hR3.alloc (.cells #[.int .i64 H, .bool up, .slice au nk cu] 44)
  clear hR3 hF
  have hF := hF3
  clear hF3
  obtain ⟨n4, hn4⟩ : ∃ n4, w3.heap.size = n4 := ⟨_, rfl⟩
  rw [hn4] at hF hO
  have o := hF.own; simp only [World.size_alloc, World.size_drew, World.size_setCell, List.mem_cons, List.not_mem_nil, or_false, forall_eq_or_imp, forall_eq, At, and_true, Nat.zero_add, Nat.reduceAdd, List.set_cons_zero, List.set_cons_succ] at o
  clear hn0
  go_wp2_with fail
  refine (pick_any _ _ _ _ hR (by omega) (by omega) (by omega)).mono ?_; rintro e w5 ⟨v5, rfl, x5, l5, hR5, hK5⟩
  have hs5 := hK5.size
  simp only [World.size_alloc] at hs5
  replace hF := hF.call hK5
  replace hO := hO.kp hK5 (by omega)
  replace hR := hR5
  clear hK5 hR5 o
  have h4a : n4 < w5.heap.size := by omega
  have h4b : n0 + 2 ≤ n4 := by omega
  clear hn4
  have o := hF.own; simp only [World.size_alloc, World.size_drew, World.size_setCell, List.mem_cons, List.not_mem_nil, or_false, forall_eq_or_imp, forall_eq, At, and_true, Nat.zero_add, Nat.reduceAdd, List.set_cons_zero, List.set_cons_succ] at o
  by_cases h0 : v5 = 0
  · subst h0
    go_upto_region 4 with (fail)
    refine wp_region_held_drew (S := fun w' => w'.cell? ⟨n4, 0, none⟩ = some (.int .i64 H)) (by kernel_rfl) ?hs (fun hHeld => ?_)
    case hs => exact Fr.get hF.drew (List.mem_cons_self ..) rfl
    refine wpAnyH_take (i := 0) (oi := _) (v := ?_) (by simp only [List.getElem?_toArray, List.getElem?_cons_succ, List.getElem?_cons_zero]; rfl) (by kernel_rfl) (by kernel_rfl) (by kernel_rfl) (by exact fun _ _ _ h => h) (Or.inl ⟨by rfl, ?hy⟩) (by assumption) ?_
    case hy => (intro w hSw; (try dsimp only at hSw); go_simp; (try with_reducible rfl))
    (try simp only [Act.put, List.setIfInBounds_toArray, List.set_cons_zero, List.set_cons_succ])
    refine wpAnyH_take (i := 2) (oi := _) (v := ?_) (by simp only [List.getElem?_toArray, List.getElem?_cons_succ, List.getElem?_cons_zero]; rfl) (by kernel_rfl) (by kernel_rfl) (by kernel_rfl) (by exact fun _ _ _ h => h) (Or.inl ⟨by rfl, ?hy⟩) (by assumption) ?_
    case hy => (intro w hSw; (try dsimp only at hSw); go_simp; (try with_reducible rfl))
    (try simp only [Act.put, List.setIfInBounds_toArray, List.set_cons_zero, List.set_cons_succ])
    refine wpAnyH_take (i := 3) (oi := _) (v := ?_) (by simp only [List.getElem?_toArray, List.getElem?_cons_succ, List.getElem?_cons_zero]; rfl) (by kernel_rfl) (by kernel_rfl) (by kernel_rfl) (by exact fun _ _ _ h => h) (Or.inl ⟨by rfl, ?hy⟩) (by assumption) ?_
    case hy => (intro w hSw; (try dsimp only at hSw); go_simp; (try with_reducible rfl))
    (try simp only [Act.put, List.setIfInBounds_toArray, List.set_cons_zero, List.set_cons_succ])
    refine wpAnyH_take (i := 4) (oi := _) (v := ?_) (by simp only [List.getElem?_toArray, List.getElem?_cons_succ, List.getElem?_cons_zero]; rfl) (by kernel_rfl) (by kernel_rfl) (by kernel_rfl) (by exact fun _ _ _ h => h) (Or.inl ⟨by rfl, ?hy⟩) (by assumption) ?_
    case hy => (intro w hSw; (try dsimp only at hSw); go_simp; (try with_reducible rfl))
    (try simp only [Act.put, List.setIfInBounds_toArray, List.set_cons_zero, List.set_cons_succ])
    refine wpAnyH_take (i := 6) (oi := _) (v := ?_) (by simp only [List.getElem?_toArray, List.getElem?_cons_succ, List.getElem?_cons_zero]; rfl) (by kernel_rfl) (by kernel_rfl) (by kernel_rfl) (by exact fun _ _ _ h => h) (Or.inl ⟨by rfl, ?hy⟩) (by assumption) ?_
    case hy => (intro w hSw; (try dsimp only at hSw); go_simp; (try with_reducible rfl))
    (try simp only [Act.put, List.setIfInBounds_toArray, List.set_cons_zero, List.set_cons_succ])
    refine wpAnyH_ready (rs := [1, 5]) (by kernel_rfl) (by simp) ?_
    refine AllReadyH.cons (o := _) (by simp only [List.getElem?_toArray, List.getElem?_cons_succ, List.getElem?_cons_zero]; rfl) (fun KK hK => ?_) (AllReadyH.cons (o := _) (by simp only [List.getElem?_toArray, List.getElem?_cons_succ, List.getElem?_cons_zero]; rfl) (fun KK hK => ?_) AllReadyH.nil)
    ·
      go_simp
      refine hK.out _ _ ?hs (fun hHeld => ?_)
      case hs => ((try dsimp only); exact Fr.get (by repeat (first | with_reducible exact hF | with_reducible apply Fr.drew | with_reducible apply Fr.drewN | with_reducible apply Fr.other)) (List.mem_cons_self ..) rfl)
      clear hK KK
      (try simp only [Act.put, List.setIfInBounds_toArray, List.set_cons_zero, List.set_cons_succ])
      refine wpAnyH_ready (rs := [5]) (by kernel_rfl) (by simp) ?_
      refine AllReadyH.cons (o := _) (by simp only [List.getElem?_toArray, List.getElem?_cons_succ, List.getElem?_cons_zero]; rfl) (fun KK hK => ?_) AllReadyH.nil
      go_simp
      (go_at_call 60; go_must (refine (l92From_gen _ _ H _ (by repeat (first | assumption | apply Rd.alloc | apply Rd.drew | apply Rd.drewN | (refine Rd.setCell ?_ (by dsimp only; omega) _) | apply Rd.setCell | ((try dsimp only); omega))) (by omega)).mono ?_); rintro e wy ⟨f, b, lk, pv9, mv9, P, M, rfl, y1, y2, hP4, hM9, -, -, ⟨k8, hk8, hR8⟩, hK8⟩; obtain ⟨oy1, cy1, rfl, -⟩ := y1.1.1.ex; obtain ⟨oy2, cy2, rfl, -⟩ := y2.1.1.ex; have hlo := hO.lt; have hsy := hK8.size; (try simp only [World.size_drew] at hsy y1 y2); replace hF := Fr.call (by repeat (first | with_reducible exact hF | with_reducible apply Fr.drew | with_reducible apply Fr.drewN | with_reducible apply Fr.other)) hK8; replace hO := GQ.kp (by repeat (first | with_reducible exact hO | with_reducible apply GQ.drew)) hK8 (by omega); replace hR := hR8; clear hK8 hR8 o; have o := hF.own; simp only [World.size_alloc, World.size_drew, World.size_setCell, List.mem_cons, List.not_mem_nil, or_false, forall_eq_or_imp, forall_eq, At, and_true, Nat.zero_add, Nat.reduceAdd, List.set_cons_zero, List.set_cons_succ] at o)
      (try go_wp2_with fail)
      refine hK.out _ _ ?hs (fun hHeld => ?_)
      case hs => ((try dsimp only); exact Fr.get (by repeat (first | with_reducible exact hF | with_reducible apply Fr.drew | with_reducible apply Fr.drewN | with_reducible apply Fr.other)) (List.mem_cons_self ..) rfl)
      clear hK KK
      (try simp only [Act.put, List.setIfInBounds_toArray, List.set_cons_zero, List.set_cons_succ])
      refine wpAnyH_ready (rs := [7]) (by kernel_rfl) (by simp) ?_
      refine AllReadyH.cons (o := _) (by simp only [List.getElem?_toArray, List.getElem?_cons_succ, List.getElem?_cons_zero]; rfl) (fun KK hK => ?_) AllReadyH.nil
      go_simp
      (go_at_call 37; go_must (refine (pick_any _ _ _ _ (by repeat (first | assumption | apply Rd.alloc | apply Rd.drew | apply Rd.drewN | (refine Rd.setCell ?_ (by dsimp only; omega) _) | apply Rd.setCell | ((try dsimp only); omega))) (by omega) (by omega) (by omega)).mono ?_); rintro e wx ⟨vx, rfl, xx, lx, hRx, hKx⟩; have hsx := hKx.size; replace y1 := y1.kp hKx (by omega); replace y2 := y2.kp hKx (by omega); replace hF := Fr.call (by repeat (first | with_reducible exact hF | with_reducible apply Fr.drew | with_reducible apply Fr.drewN | with_reducible apply Fr.other)) hKx; replace hO := GQ.kp (by repeat (first | with_reducible exact hO | with_reducible apply GQ.drew)) hKx (by omega); replace hR := hRx; clear hKx hRx o; have o := hF.own; simp only [World.size_alloc, World.size_drew, World.size_setCell, List.mem_cons, List.not_mem_nil, or_false, forall_eq_or_imp, forall_eq, At, and_true, Nat.zero_add, Nat.reduceAdd, List.set_cons_zero, List.set_cons_succ] at o; obtain ⟨bo, hbo⟩ : ∃ bo, (vx == 0) = bo := ⟨_, rfl⟩)
      (try go_wp2_with fail)
      refine hK.out _ _ ?hs (fun hHeld => ?_)
      case hs => ((try dsimp only); exact Fr.get (by repeat (first | with_reducible exact hF | with_reducible apply Fr.drew | with_reducible apply Fr.drewN | with_reducible apply Fr.other)) (List.mem_cons_self ..) rfl)
      clear hK KK
      (try simp only [Act.put, List.setIfInBounds_toArray, List.set_cons_zero, List.set_cons_succ])
      refine wpAnyH_take (i := 8) (oi := _) (v := ?_) (by simp only [List.getElem?_toArray, List.getElem?_cons_succ, List.getElem?_cons_zero]; rfl) (by kernel_rfl) (by kernel_rfl) (by kernel_rfl) (by exact fun _ _ _ h => h) (Or.inl ⟨by rfl, ?hy⟩) (by assumption) ?_
      case hy => (intro w hSw; (try dsimp only at hSw); go_simp; (try with_reducible rfl))
      (try simp only [Act.put, List.setIfInBounds_toArray, List.set_cons_zero, List.set_cons_succ])
      refine wpAnyH_take (i := 9) (oi := _) (v := ?_) (by simp only [List.getElem?_toArray, List.getElem?_cons_succ, List.getElem?_cons_zero]; rfl) (by kernel_rfl) (by kernel_rfl) (by kernel_rfl) (by exact fun _ _ _ h => h) (Or.inl ⟨by rfl, ?hy⟩) (by assumption) ?_
      case hy => (intro w hSw; (try dsimp only at hSw); go_simp; (try with_reducible rfl))
      (try simp only [Act.put, List.setIfInBounds_toArray, List.set_cons_zero, List.set_cons_succ])
      refine wpAnyH_ready (rs := [10]) (by kernel_rfl) (by simp) ?_
      refine AllReadyH.cons (o := _) (by simp only [List.getElem?_toArray, List.getElem?_cons_succ, List.getElem?_cons_zero]; rfl) (fun KK hK => ?_) AllReadyH.nil
      go_simp
      refine hK.out _ _ ?hs (fun hHeld => ?_)
      case hs => ((try dsimp only); exact Fr.get (by repeat (first | with_reducible exact hF | with_reducible apply Fr.drew | with_reducible apply Fr.drewN | with_reducible apply Fr.other)) (List.mem_cons_self ..) rfl)
      clear hK KK
      (try simp only [Act.put, List.setIfInBounds_toArray, List.set_cons_zero, List.set_cons_succ])
      refine wpAnyH_ready (rs := [11]) (by kernel_rfl) (by simp) ?_
      refine AllReadyH.cons (o := _) (by simp only [List.getElem?_toArray, List.getElem?_cons_succ, List.getElem?_cons_zero]; rfl) (fun KK hK => ?_) AllReadyH.nil
      (obtain ⟨ds, hOw, hG, hnv, hnq⟩ := hO; have hlG := hG.1; refine step_app (by rfl) _ _ 42 (by rfl) 48 (.agg #[.int .i64 0, .int .i64 0, .slice none 0 0, .int .i64 0, .slice none 0 0, .bool false]) 6 80 Tryd.underlying42 infoGt rfl (by decide) (by decide) (n0 + 2) encGt _ ds rfl (hOw.alloc _) (⟨f, b, lk, .slice oy1 P.length cy1, .slice oy2 M.length cy2, bo⟩ : GtD) ⟨_, 0, none⟩ 1 rfl rfl (cells_new _ _ _) (by simp [encGt, Value.oneCell']) (by have := hnk.out; omega) (by simp only [World.size_alloc]; omega) ?_)
      intro v9 wz hO9 hg9 hb9 hf9
      have hO2 := gq_snoc (s := ((f, b, lk, P, M), bo)) hG ((Below.refl _ _).alloc (Nat.le_refl _) _) hO9 hg9 hf9 (Sh.below (S := shGt) ⟨⟨rfl, rfl, rfl, rfl⟩, y1.1, y2.1⟩ ((Below.refl _ _).alloc (Nat.le_refl _) _)) hnv (by simp only [World.size_alloc]; omega) hnq (sub3 (fun g h => ⟨by have := y1.2 g h; omega, by have := y1.2 g h; simp only [World.size_alloc]; omega, by have := y1.2 g h; omega, fun e => by have := y1.2 g h; have := hlo g e; omega⟩) (fun g h => ⟨by have := y2.2 g h; omega, by have := y2.2 g h; simp only [World.size_alloc]; omega, by have := y2.2 g h; omega, fun e => by have := y2.2 g h; have := hlo g e; omega⟩))
      have hsz9 := hb9.size
      simp only [World.size_alloc] at hsz9
      replace hF := (Fr.other (by repeat (first | with_reducible exact hF | with_reducible apply Fr.drew | with_reducible apply Fr.drewN | with_reducible apply Fr.other)) (.cells #[.int .i64 f, .int .i64 b, .slice oy1 P.length cy1, .int .i64 lk, .slice oy2 M.length cy2, .bool bo] 48)).grown hg9 (fun g' hg => by have := hOw.ge g' hg; have := HN.out; omega) (fun p hp e => by have := hOw.ge _ e; simp only [List.mem_cons, List.not_mem_nil, or_false] at hp; rcases hp with rfl | rfl; exact hnv e; simp at this <;> omega)
      replace hR := Rd.below (Rd.alloc (by repeat (first | assumption | apply Rd.alloc | apply Rd.drew | apply Rd.drewN | (refine Rd.setCell ?_ (by dsimp only; omega) _) | apply Rd.setCell | ((try dsimp only); omega))) (.cells #[.int .i64 f, .int .i64 b, .slice oy1 P.length cy1, .int .i64 lk, .slice oy2 M.length cy2, .bool bo] 48)) hb9 (by omega)
      obtain ⟨a9, c9, rfl⟩ := hO2.sl
      obtain ⟨n9, hn9⟩ : ∃ n9, Hid ((K ++ [((f, b, lk, P, M), bo)]).length = n9) := ⟨_, rfl⟩
      rw [hn9.out] at hO2 ⊢
      clear hg9 hb9 hf9 hO9 hOw hG o hlG
      have o := hF.own; simp only [World.size_alloc, World.size_drew, World.size_setCell, List.mem_cons, List.not_mem_nil, or_false, forall_eq_or_imp, forall_eq, At, and_true, Nat.zero_add, Nat.reduceAdd, List.set_cons_zero, List.set_cons_succ] at o
      refine hK.out _ _ ?hs (fun hHeld => ?_)
      case hs => ((try dsimp only); exact Fr.get (by repeat (first | with_reducible exact hF | with_reducible apply Fr.drew | with_reducible apply Fr.drewN | with_reducible apply Fr.other)) (List.mem_cons_self ..) rfl)
      clear hK KK
      (try simp only [Act.put, List.setIfInBounds_toArray, List.set_cons_zero, List.set_cons_succ])
      refine wpAnyH_take (i := 12) (oi := _) (v := ?_) (by simp only [List.getElem?_toArray, List.getElem?_cons_succ, List.getElem?_cons_zero]; rfl) (by kernel_rfl) (by kernel_rfl) (by kernel_rfl) (by exact fun _ _ _ h => h) (Or.inl ⟨by rfl, ?hy⟩) (by assumption) ?_
      case hy => (intro w hSw; (try dsimp only at hSw); go_simp; (try with_reducible rfl))
      (try simp only [Act.put, List.setIfInBounds_toArray, List.set_cons_zero, List.set_cons_succ])
      refine wpAnyH_ready (rs := [13]) (by kernel_rfl) (by simp) ?_
      refine AllReadyH.cons (o := _) (by simp only [List.getElem?_toArray, List.getElem?_cons_succ, List.getElem?_cons_zero]; rfl) (fun KK hK => ?_) AllReadyH.nil
      go_simp
      replace hF := hF.set 2 (.slice a9 n9 c9) (by simp) (by simp <;> omega)
      have hO := hO2.put (p := ⟨n4, 2, none⟩) rfl (.slice a9 n9 c9)
      refine hK.out _ _ ?hs (fun hHeld => ?_)
      case hs => ((try dsimp only); exact Fr.get (by repeat (first | with_reducible exact hF | with_reducible apply Fr.drew | with_reducible apply Fr.drewN | with_reducible apply Fr.other)) (List.mem_cons_self ..) rfl)
      clear hK KK
      (try simp only [Act.put, List.setIfInBounds_toArray, List.set_cons_zero, List.set_cons_succ])
      refine wpAnyH_done (by kernel_rfl) ?_ _
      clear hO2 o
      have o := hF.own; simp only [World.size_alloc, World.size_drew, World.size_setCell, List.mem_cons, List.not_mem_nil, or_false, forall_eq_or_imp, forall_eq, At, and_true, Nat.zero_add, Nat.reduceAdd, List.set_cons_zero, List.set_cons_succ] at o
      go_wp2_with fail
      obtain ⟨wf, hwf, hFf, hOf⟩ := put3w (Fr.two hF) (by simp <;> omega) hO.gown (by omega) (.int .i64 H) (.bool up) (.slice a9 n9 c9)
      rw [← hwf]
      clear hwf o hF hR hO
      have hF := hFf
      have o := hF.own; simp only [World.size_alloc, World.size_drew, World.size_setCell, List.mem_cons, List.not_mem_nil, or_false, forall_eq_or_imp, forall_eq, At, and_true, Nat.zero_add, Nat.reduceAdd, List.set_cons_zero, List.set_cons_succ] at o
      refine bodyPost_ret (v := .agg #[.int .i64 H, .bool up, .slice a9 n9 c9]) ?_ rfl ?_
      · simp [results, Tryd.results24, go_sem, o]
      · exact ⟨_, _, _, K ++ [((f, b, lk, P, M), bo)], rfl, hOf.base (by have := HN.out; omega), (by have := hnk.out; simp; omega), smg_snoc HKs.out (show SmG ((f, b, lk, P, M), bo) from ⟨(by have := hP4.1; omega : P.length ≤ 100), (by omega : M.length ≤ 100)⟩), hFf.kp.below (by have := HN.out; omega) (Nat.le_refl _)⟩
    ·
      go_simp
      (go_at_call 60; go_must (refine (l92From_gen _ _ H _ (by repeat (first | assumption | apply Rd.alloc | apply Rd.drew | apply Rd.drewN | (refine Rd.setCell ?_ (by dsimp only; omega) _) | apply Rd.setCell | ((try dsimp only); omega))) (by omega)).mono ?_); rintro e wy ⟨f, b, lk, pv9, mv9, P, M, rfl, y1, y2, hP4, hM9, -, -, ⟨k8, hk8, hR8⟩, hK8⟩; obtain ⟨oy1, cy1, rfl, -⟩ := y1.1.1.ex; obtain ⟨oy2, cy2, rfl, -⟩ := y2.1.1.ex; have hlo := hO.lt; have hsy := hK8.size; (try simp only [World.size_drew] at hsy y1 y2); replace hF := Fr.call (by repeat (first | with_reducible exact hF | with_reducible apply Fr.drew | with_reducible apply Fr.drewN | with_reducible apply Fr.other)) hK8; replace hO := GQ.kp (by repeat (first | with_reducible exact hO | with_reducible apply GQ.drew)) hK8 (by omega); replace hR := hR8; clear hK8 hR8 o; have o := hF.own; simp only [World.size_alloc, World.size_drew, World.size_setCell, List.mem_cons, List.not_mem_nil, or_false, forall_eq_or_imp, forall_eq, At, and_true, Nat.zero_add, Nat.reduceAdd, List.set_cons_zero, List.set_cons_succ] at o)
      (try go_wp2_with fail)
      refine hK.out _ _ ?hs (fun hHeld => ?_)
      case hs => ((try dsimp only); exact Fr.get (by repeat (first | with_reducible exact hF | with_reducible apply Fr.drew | with_reducible apply Fr.drewN | with_reducible apply Fr.other)) (List.mem_cons_self ..) rfl)
      clear hK KK
      (try simp only [Act.put, List.setIfInBounds_toArray, List.set_cons_zero, List.set_cons_succ])
      refine wpAnyH_ready (rs := [1, 7]) (by kernel_rfl) (by simp) ?_
      refine AllReadyH.cons (o := _) (by simp only [List.getElem?_toArray, List.getElem?_cons_succ, List.getElem?_cons_zero]; rfl) (fun KK hK => ?_) (AllReadyH.cons (o := _) (by simp only [List.getElem?_toArray, List.getElem?_cons_succ, List.getElem?_cons_zero]; rfl) (fun KK hK => ?_) AllReadyH.nil)
      ·
        go_simp
        refine hK.out _ _ ?hs (fun hHeld => ?_)
        case hs => ((try dsimp only); exact Fr.get (by repeat (first | with_reducible exact hF | with_reducible apply Fr.drew | with_reducible apply Fr.drewN | with_reducible apply Fr.other)) (List.mem_cons_self ..) rfl)
        clear hK KK
        (try simp only [Act.put, List.setIfInBounds_toArray, List.set_cons_zero, List.set_cons_succ])
        refine wpAnyH_ready (rs := [7]) (by kernel_rfl) (by simp) ?_
        refine AllReadyH.cons (o := _) (by simp only [List.getElem?_toArray, List.getElem?_cons_succ, List.getElem?_cons_zero]; rfl) (fun KK hK => ?_) AllReadyH.nil
        go_simp
        (go_at_call 37; go_must (refine (pick_any _ _ _ _ (by repeat (first | assumption | apply Rd.alloc | apply Rd.drew | apply Rd.drewN | (refine Rd.setCell ?_ (by dsimp only; omega) _) | apply Rd.setCell | ((try dsimp only); omega))) (by omega) (by omega) (by omega)).mono ?_); rintro e wx ⟨vx, rfl, xx, lx, hRx, hKx⟩; have hsx := hKx.size; replace y1 := y1.kp hKx (by omega); replace y2 := y2.kp hKx (by omega); replace hF := Fr.call (by repeat (first | with_reducible exact hF | with_reducible apply Fr.drew | with_reducible apply Fr.drewN | with_reducible apply Fr.other)) hKx; replace hO := GQ.kp (by repeat (first | with_reducible exact hO | with_reducible apply GQ.drew)) hKx (by omega); replace hR := hRx; clear hKx hRx o; have o := hF.own; simp only [World.size_alloc, World.size_drew, World.size_setCell, List.mem_cons, List.not_mem_nil, or_false, forall_eq_or_imp, forall_eq, At, and_true, Nat.zero_add, Nat.reduceAdd, List.set_cons_zero, List.set_cons_succ] at o; obtain ⟨bo, hbo⟩ : ∃ bo, (vx == 0) = bo := ⟨_, rfl⟩)
        (try go_wp2_with fail)
        refine hK.out _ _ ?hs (fun hHeld => ?_)
        case hs => ((try dsimp only); exact Fr.get (by repeat (first | with_reducible exact hF | with_reducible apply Fr.drew | with_reducible apply Fr.drewN | with_reducible apply Fr.other)) (List.mem_cons_self ..) rfl)
        clear hK KK
        (try simp only [Act.put, List.setIfInBounds_toArray, List.set_cons_zero, List.set_cons_succ])
        refine wpAnyH_take (i := 8) (oi := _) (v := ?_) (by simp only [List.getElem?_toArray, List.getElem?_cons_succ, List.getElem?_cons_zero]; rfl) (by kernel_rfl) (by kernel_rfl) (by kernel_rfl) (by exact fun _ _ _ h => h) (Or.inl ⟨by rfl, ?hy⟩) (by assumption) ?_
        case hy => (intro w hSw; (try dsimp only at hSw); go_simp; (try with_reducible rfl))
        (try simp only [Act.put, List.setIfInBounds_toArray, List.set_cons_zero, List.set_cons_succ])
        refine wpAnyH_take (i := 9) (oi := _) (v := ?_) (by simp only [List.getElem?_toArray, List.getElem?_cons_succ, List.getElem?_cons_zero]; rfl) (by kernel_rfl) (by kernel_rfl) (by kernel_rfl) (by exact fun _ _ _ h => h) (Or.inl ⟨by rfl, ?hy⟩) (by assumption) ?_
        case hy => (intro w hSw; (try dsimp only at hSw); go_simp; (try with_reducible rfl))
        (try simp only [Act.put, List.setIfInBounds_toArray, List.set_cons_zero, List.set_cons_succ])
        refine wpAnyH_ready (rs := [10]) (by kernel_rfl) (by simp) ?_
        refine AllReadyH.cons (o := _) (by simp only [List.getElem?_toArray, List.getElem?_cons_succ, List.getElem?_cons_zero]; rfl) (fun KK hK => ?_) AllReadyH.nil
        go_simp
        refine hK.out _ _ ?hs (fun hHeld => ?_)
        case hs => ((try dsimp only); exact Fr.get (by repeat (first | with_reducible exact hF | with_reducible apply Fr.drew | with_reducible apply Fr.drewN | with_reducible apply Fr.other)) (List.mem_cons_self ..) rfl)
        clear hK KK
        (try simp only [Act.put, List.setIfInBounds_toArray, List.set_cons_zero, List.set_cons_succ])
        refine wpAnyH_ready (rs := [11]) (by kernel_rfl) (by simp) ?_
        refine AllReadyH.cons (o := _) (by simp only [List.getElem?_toArray, List.getElem?_cons_succ, List.getElem?_cons_zero]; rfl) (fun KK hK => ?_) AllReadyH.nil
        (obtain ⟨ds, hOw, hG, hnv, hnq⟩ := hO; have hlG := hG.1; refine step_app (by rfl) _ _ 42 (by rfl) 48 (.agg #[.int .i64 0, .int .i64 0, .slice none 0 0, .int .i64 0, .slice none 0 0, .bool false]) 6 80 Tryd.underlying42 infoGt rfl (by decide) (by decide) (n0 + 2) encGt _ ds rfl (hOw.alloc _) (⟨f, b, lk, .slice oy1 P.length cy1, .slice oy2 M.length cy2, bo⟩ : GtD) ⟨_, 0, none⟩ 1 rfl rfl (cells_new _ _ _) (by simp [encGt, Value.oneCell']) (by have := hnk.out; omega) (by simp only [World.size_alloc]; omega) ?_)
        intro v9 wz hO9 hg9 hb9 hf9
        have hO2 := gq_snoc (s := ((f, b, lk, P, M), bo)) hG ((Below.refl _ _).alloc (Nat.le_refl _) _) hO9 hg9 hf9 (Sh.below (S := shGt) ⟨⟨rfl, rfl, rfl, rfl⟩, y1.1, y2.1⟩ ((Below.refl _ _).alloc (Nat.le_refl _) _)) hnv (by simp only [World.size_alloc]; omega) hnq (sub3 (fun g h => ⟨by have := y1.2 g h; omega, by have := y1.2 g h; simp only [World.size_alloc]; omega, by have := y1.2 g h; omega, fun e => by have := y1.2 g h; have := hlo g e; omega⟩) (fun g h => ⟨by have := y2.2 g h; omega, by have := y2.2 g h; simp only [World.size_alloc]; omega, by have := y2.2 g h; omega, fun e => by have := y2.2 g h; have := hlo g e; omega⟩))
        have hsz9 := hb9.size
        simp only [World.size_alloc] at hsz9
        replace hF := (Fr.other (by repeat (first | with_reducible exact hF | with_reducible apply Fr.drew | with_reducible apply Fr.drewN | with_reducible apply Fr.other)) (.cells #[.int .i64 f, .int .i64 b, .slice oy1 P.length cy1, .int .i64 lk, .slice oy2 M.length cy2, .bool bo] 48)).grown hg9 (fun g' hg => by have := hOw.ge g' hg; have := HN.out; omega) (fun p hp e => by have := hOw.ge _ e; simp only [List.mem_cons, List.not_mem_nil, or_false] at hp; rcases hp with rfl | rfl; exact hnv e; simp at this <;> omega)
        replace hR := Rd.below (Rd.alloc (by repeat (first | assumption | apply Rd.alloc | apply Rd.drew | apply Rd.drewN | (refine Rd.setCell ?_ (by dsimp only; omega) _) | apply Rd.setCell | ((try dsimp only); omega))) (.cells #[.int .i64 f, .int .i64 b, .slice oy1 P.length cy1, .int .i64 lk, .slice oy2 M.length cy2, .bool bo] 48)) hb9 (by omega)
        obtain ⟨a9, c9, rfl⟩ := hO2.sl
        obtain ⟨n9, hn9⟩ : ∃ n9, Hid ((K ++ [((f, b, lk, P, M), bo)]).length = n9) := ⟨_, rfl⟩
        rw [hn9.out] at hO2 ⊢
        clear hg9 hb9 hf9 hO9 hOw hG o hlG
        have o := hF.own; simp only [World.size_alloc, World.size_drew, World.size_setCell, List.mem_cons, List.not_mem_nil, or_false, forall_eq_or_imp, forall_eq, At, and_true, Nat.zero_add, Nat.reduceAdd, List.set_cons_zero, List.set_cons_succ] at o
        refine hK.out _ _ ?hs (fun hHeld => ?_)
        case hs => ((try dsimp only); exact Fr.get (by repeat (first | with_reducible exact hF | with_reducible apply Fr.drew | with_reducible apply Fr.drewN | with_reducible apply Fr.other)) (List.mem_cons_self ..) rfl)
        clear hK KK
        (try simp only [Act.put, List.setIfInBounds_toArray, List.set_cons_zero, List.set_cons_succ])
        refine wpAnyH_take (i := 12) (oi := _) (v := ?_) (by simp only [List.getElem?_toArray, List.getElem?_cons_succ, List.getElem?_cons_zero]; rfl) (by kernel_rfl) (by kernel_rfl) (by kernel_rfl) (by exact fun _ _ _ h => h) (Or.inl ⟨by rfl, ?hy⟩) (by assumption) ?_
        case hy => (intro w hSw; (try dsimp only at hSw); go_simp; (try with_reducible rfl))
        (try simp only [Act.put, List.setIfInBounds_toArray, List.set_cons_zero, List.set_cons_succ])
        refine wpAnyH_ready (rs := [13]) (by kernel_rfl) (by simp) ?_
        refine AllReadyH.cons (o := _) (by simp only [List.getElem?_toArray, List.getElem?_cons_succ, List.getElem?_cons_zero]; rfl) (fun KK hK => ?_) AllReadyH.nil
        go_simp
        replace hF := hF.set 2 (.slice a9 n9 c9) (by simp) (by simp <;> omega)
        have hO := hO2.put (p := ⟨n4, 2, none⟩) rfl (.slice a9 n9 c9)
        refine hK.out _ _ ?hs (fun hHeld => ?_)
        case hs => ((try dsimp only); exact Fr.get (by repeat (first | with_reducible exact hF | with_reducible apply Fr.drew | with_reducible apply Fr.drewN | with_reducible apply Fr.other)) (List.mem_cons_self ..) rfl)
        clear hK KK
        (try simp only [Act.put, List.setIfInBounds_toArray, List.set_cons_zero, List.set_cons_succ])
        refine wpAnyH_done (by kernel_rfl) ?_ _
        clear hO2 o
        have o := hF.own; simp only [World.size_alloc, World.size_drew, World.size_setCell, List.mem_cons, List.not_mem_nil, or_false, forall_eq_or_imp, forall_eq, At, and_true, Nat.zero_add, Nat.reduceAdd, List.set_cons_zero, List.set_cons_succ] at o
        go_wp2_with fail
        obtain ⟨wf, hwf, hFf, hOf⟩ := put3w (Fr.two hF) (by simp <;> omega) hO.gown (by omega) (.int .i64 H) (.bool up) (.slice a9 n9 c9)
        rw [← hwf]
        clear hwf o hF hR hO
        have hF := hFf
        have o := hF.own; simp only [World.size_alloc, World.size_drew, World.size_setCell, List.mem_cons, List.not_mem_nil, or_false, forall_eq_or_imp, forall_eq, At, and_true, Nat.zero_add, Nat.reduceAdd, List.set_cons_zero, List.set_cons_succ] at o
        refine bodyPost_ret (v := .agg #[.int .i64 H, .bool up, .slice a9 n9 c9]) ?_ rfl ?_
        · simp [results, Tryd.results24, go_sem, o]
        · exact ⟨_, _, _, K ++ [((f, b, lk, P, M), bo)], rfl, hOf.base (by have := HN.out; omega), (by have := hnk.out; simp; omega), smg_snoc HKs.out (show SmG ((f, b, lk, P, M), bo) from ⟨(by have := hP4.1; omega : P.length ≤ 100), (by omega : M.length ≤ 100)⟩), hFf.kp.below (by have := HN.out; omega) (Nat.le_refl _)⟩
      ·
        go_simp
        (go_at_call 37; go_must (refine (pick_any _ _ _ _ (by repeat (first | assumption | apply Rd.alloc | apply Rd.drew | apply Rd.drewN | (refine Rd.setCell ?_ (by dsimp only; omega) _) | apply Rd.setCell | ((try dsimp only); omega))) (by omega) (by omega) (by omega)).mono ?_); rintro e wx ⟨vx, rfl, xx, lx, hRx, hKx⟩; have hsx := hKx.size; replace y1 := y1.kp hKx (by omega); replace y2 := y2.kp hKx (by omega); replace hF := Fr.call (by repeat (first | with_reducible exact hF | with_reducible apply Fr.drew | with_reducible apply Fr.drewN | with_reducible apply Fr.other)) hKx; replace hO := GQ.kp (by repeat (first | with_reducible exact hO | with_reducible apply GQ.drew)) hKx (by omega); replace hR := hRx; clear hKx hRx o; have o := hF.own; simp only [World.size_alloc, World.size_drew, World.size_setCell, List.mem_cons, List.not_mem_nil, or_false, forall_eq_or_imp, forall_eq, At, and_true, Nat.zero_add, Nat.reduceAdd, List.set_cons_zero, List.set_cons_succ] at o; obtain ⟨bo, hbo⟩ : ∃ bo, (vx == 0) = bo := ⟨_, rfl⟩)
        (try go_wp2_with fail)
        refine hK.out _ _ ?hs (fun hHeld => ?_)
        case hs => ((try dsimp only); exact Fr.get (by repeat (first | with_reducible exact hF | with_reducible apply Fr.drew | with_reducible apply Fr.drewN | with_reducible apply Fr.other)) (List.mem_cons_self ..) rfl)
        clear hK KK
        (try simp only [Act.put, List.setIfInBounds_toArray, List.set_cons_zero, List.set_cons_succ])
        refine wpAnyH_take (i := 8) (oi := _) (v := ?_) (by simp only [List.getElem?_toArray, List.getElem?_cons_succ, List.getElem?_cons_zero]; rfl) (by kernel_rfl) (by kernel_rfl) (by kernel_rfl) (by exact fun _ _ _ h => h) (Or.inl ⟨by rfl, ?hy⟩) (by assumption) ?_
        case hy => (intro w hSw; (try dsimp only at hSw); go_simp; (try with_reducible rfl))
        (try simp only [Act.put, List.setIfInBounds_toArray, List.set_cons_zero, List.set_cons_succ])
        refine wpAnyH_take (i := 9) (oi := _) (v := ?_) (by simp only [List.getElem?_toArray, List.getElem?_cons_succ, List.getElem?_cons_zero]; rfl) (by kernel_rfl) (by kernel_rfl) (by kernel_rfl) (by exact fun _ _ _ h => h) (Or.inl ⟨by rfl, ?hy⟩) (by assumption) ?_
        case hy => (intro w hSw; (try dsimp only at hSw); go_simp; (try with_reducible rfl))
        (try simp only [Act.put, List.setIfInBounds_toArray, List.set_cons_zero, List.set_cons_succ])
        refine wpAnyH_ready (rs := [1, 10]) (by kernel_rfl) (by simp) ?_
        refine AllReadyH.cons (o := _) (by simp only [List.getElem?_toArray, List.getElem?_cons_succ, List.getElem?_cons_zero]; rfl) (fun KK hK => ?_) (AllReadyH.cons (o := _) (by simp only [List.getElem?_toArray, List.getElem?_cons_succ, List.getElem?_cons_zero]; rfl) (fun KK hK => ?_) AllReadyH.nil)
        ·
          go_simp
          refine hK.out _ _ ?hs (fun hHeld => ?_)
          case hs => ((try dsimp only); exact Fr.get (by repeat (first | with_reducible exact hF | with_reducible apply Fr.drew | with_reducible apply Fr.drewN | with_reducible apply Fr.other)) (List.mem_cons_self ..) rfl)
          clear hK KK
          (try simp only [Act.put, List.setIfInBounds_toArray, List.set_cons_zero, List.set_cons_succ])
          refine wpAnyH_ready (rs := [10]) (by kernel_rfl) (by simp) ?_
          refine AllReadyH.cons (o := _) (by simp only [List.getElem?_toArray, List.getElem?_cons_succ, List.getElem?_cons_zero]; rfl) (fun KK hK => ?_) AllReadyH.nil
          go_simp
          refine hK.out _ _ ?hs (fun hHeld => ?_)
          case hs => ((try dsimp only); exact Fr.get (by repeat (first | with_reducible exact hF | with_reducible apply Fr.drew | with_reducible apply Fr.drewN | with_reducible apply Fr.other)) (List.mem_cons_self ..) rfl)
          clear hK KK
          (try simp only [Act.put, List.setIfInBounds_toArray, List.set_cons_zero, List.set_cons_succ])
          refine wpAnyH_ready (rs := [11]) (by kernel_rfl) (by simp) ?_
          refine AllReadyH.cons (o := _) (by simp only [List.getElem?_toArray, List.getElem?_cons_succ, List.getElem?_cons_zero]; rfl) (fun KK hK => ?_) AllReadyH.nil
          (obtain ⟨ds, hOw, hG, hnv, hnq⟩ := hO; have hlG := hG.1; refine step_app (by rfl) _ _ 42 (by rfl) 48 (.agg #[.int .i64 0, .int .i64 0, .slice none 0 0, .int .i64 0, .slice none 0 0, .bool false]) 6 80 Tryd.underlying42 infoGt rfl (by decide) (by decide) (n0 + 2) encGt _ ds rfl (hOw.alloc _) (⟨f, b, lk, .slice oy1 P.length cy1, .slice oy2 M.length cy2, bo⟩ : GtD) ⟨_, 0, none⟩ 1 rfl rfl (cells_new _ _ _) (by simp [encGt, Value.oneCell']) (by have := hnk.out; omega) (by simp only [World.size_alloc]; omega) ?_)
          intro v9 wz hO9 hg9 hb9 hf9
          have hO2 := gq_snoc (s := ((f, b, lk, P, M), bo)) hG ((Below.refl _ _).alloc (Nat.le_refl _) _) hO9 hg9 hf9 (Sh.below (S := shGt) ⟨⟨rfl, rfl, rfl, rfl⟩, y1.1, y2.1⟩ ((Below.refl _ _).alloc (Nat.le_refl _) _)) hnv (by simp only [World.size_alloc]; omega) hnq (sub3 (fun g h => ⟨by have := y1.2 g h; omega, by have := y1.2 g h; simp only [World.size_alloc]; omega, by have := y1.2 g h; omega, fun e => by have := y1.2 g h; have := hlo g e; omega⟩) (fun g h => ⟨by have := y2.2 g h; omega, by have := y2.2 g h; simp only [World.size_alloc]; omega, by have := y2.2 g h; omega, fun e => by have := y2.2 g h; have := hlo g e; omega⟩))
          have hsz9 := hb9.size
          simp only [World.size_alloc] at hsz9
          replace hF := (Fr.other (by repeat (first | with_reducible exact hF | with_reducible apply Fr.drew | with_reducible apply Fr.drewN | with_reducible apply Fr.other)) (.cells #[.int .i64 f, .int .i64 b, .slice oy1 P.length cy1, .int .i64 lk, .slice oy2 M.length cy2, .bool bo] 48)).grown hg9 (fun g' hg => by have := hOw.ge g' hg; have := HN.out; omega) (fun p hp e => by have := hOw.ge _ e; simp only [List.mem_cons, List.not_mem_nil, or_false] at hp; rcases hp with rfl | rfl; exact hnv e; simp at this <;> omega)
          replace hR := Rd.below (Rd.alloc (by repeat (first | assumption | apply Rd.alloc | apply Rd.drew | apply Rd.drewN | (refine Rd.setCell ?_ (by dsimp only; omega) _) | apply Rd.setCell | ((try dsimp only); omega))) (.cells #[.int .i64 f, .int .i64 b, .slice oy1 P.length cy1, .int .i64 lk, .slice oy2 M.length cy2, .bool bo] 48)) hb9 (by omega)
          obtain ⟨a9, c9, rfl⟩ := hO2.sl
          obtain ⟨n9, hn9⟩ : ∃ n9, Hid ((K ++ [((f, b, lk, P, M), bo)]).length = n9) := ⟨_, rfl⟩
          rw [hn9.out] at hO2 ⊢
          clear hg9 hb9 hf9 hO9 hOw hG o hlG
          have o := hF.own; simp only [World.size_alloc, World.size_drew, World.size_setCell, List.mem_cons, List.not_mem_nil, or_false, forall_eq_or_imp, forall_eq, At, and_true, Nat.zero_add, Nat.reduceAdd, List.set_cons_zero, List.set_cons_succ] at o
          refine hK.out _ _ ?hs (fun hHeld => ?_)
          case hs => ((try dsimp only); exact Fr.get (by repeat (first | with_reducible exact hF | with_reducible apply Fr.drew | with_reducible apply Fr.drewN | with_reducible apply Fr.other)) (List.mem_cons_self ..) rfl)
          clear hK KK
          (try simp only [Act.put, List.setIfInBounds_toArray, List.set_cons_zero, List.set_cons_succ])
          refine wpAnyH_take (i := 12) (oi := _) (v := ?_) (by simp only [List.getElem?_toArray, List.getElem?_cons_succ, List.getElem?_cons_zero]; rfl) (by kernel_rfl) (by kernel_rfl) (by kernel_rfl) (by exact fun _ _ _ h => h) (Or.inl ⟨by rfl, ?hy⟩) (by assumption) ?_
          case hy => (intro w hSw; (try dsimp only at hSw); go_simp; (try with_reducible rfl))
          (try simp only [Act.put, List.setIfInBounds_toArray, List.set_cons_zero, List.set_cons_succ])
          refine wpAnyH_ready (rs := [13]) (by kernel_rfl) (by simp) ?_
          refine AllReadyH.cons (o := _) (by simp only [List.getElem?_toArray, List.getElem?_cons_succ, List.getElem?_cons_zero]; rfl) (fun KK hK => ?_) AllReadyH.nil
          go_simp
          replace hF := hF.set 2 (.slice a9 n9 c9) (by simp) (by simp <;> omega)
          have hO := hO2.put (p := ⟨n4, 2, none⟩) rfl (.slice a9 n9 c9)
          refine hK.out _ _ ?hs (fun hHeld => ?_)
          case hs => ((try dsimp only); exact Fr.get (by repeat (first | with_reducible exact hF | with_reducible apply Fr.drew | with_reducible apply Fr.drewN | with_reducible apply Fr.other)) (List.mem_cons_self ..) rfl)
          clear hK KK
          (try simp only [Act.put, List.setIfInBounds_toArray, List.set_cons_zero, List.set_cons_succ])
          refine wpAnyH_done (by kernel_rfl) ?_ _
          clear hO2 o
          have o := hF.own; simp only [World.size_alloc, World.size_drew, World.size_setCell, List.mem_cons, List.not_mem_nil, or_false, forall_eq_or_imp, forall_eq, At, and_true, Nat.zero_add, Nat.reduceAdd, List.set_cons_zero, List.set_cons_succ] at o
          go_wp2_with fail
          obtain ⟨wf, hwf, hFf, hOf⟩ := put3w (Fr.two hF) (by simp <;> omega) hO.gown (by omega) (.int .i64 H) (.bool up) (.slice a9 n9 c9)
          rw [← hwf]
          clear hwf o hF hR hO
          have hF := hFf
          have o := hF.own; simp only [World.size_alloc, World.size_drew, World.size_setCell, List.mem_cons, List.not_mem_nil, or_false, forall_eq_or_imp, forall_eq, At, and_true, Nat.zero_add, Nat.reduceAdd, List.set_cons_zero, List.set_cons_succ] at o
          refine bodyPost_ret (v := .agg #[.int .i64 H, .bool up, .slice a9 n9 c9]) ?_ rfl ?_
          · simp [results, Tryd.results24, go_sem, o]
          · exact ⟨_, _, _, K ++ [((f, b, lk, P, M), bo)], rfl, hOf.base (by have := HN.out; omega), (by have := hnk.out; simp; omega), smg_snoc HKs.out (show SmG ((f, b, lk, P, M), bo) from ⟨(by have := hP4.1; omega : P.length ≤ 100), (by omega : M.length ≤ 100)⟩), hFf.kp.below (by have := HN.out; omega) (Nat.le_refl _)⟩
        ·
          go_simp
          refine hK.out _ _ ?hs (fun hHeld => ?_)
          case hs => ((try dsimp only); exact Fr.get (by repeat (first | with_reducible exact hF | with_reducible apply Fr.drew | with_reducible apply Fr.drewN | with_reducible apply Fr.other)) (List.mem_cons_self ..) rfl)
          clear hK KK
          (try simp only [Act.put, List.setIfInBounds_toArray, List.set_cons_zero, List.set_cons_succ])
          refine wpAnyH_ready (rs := [1]) (by kernel_rfl) (by simp) ?_
          refine AllReadyH.cons (o := _) (by simp only [List.getElem?_toArray, List.getElem?_cons_succ, List.getElem?_cons_zero]; rfl) (fun KK hK => ?_) AllReadyH.nil
          go_simp
          refine hK.out _ _ ?hs (fun hHeld => ?_)
          case hs => ((try dsimp only); exact Fr.get (by repeat (first | with_reducible exact hF | with_reducible apply Fr.drew | with_reducible apply Fr.drewN | with_reducible apply Fr.other)) (List.mem_cons_self ..) rfl)
          clear hK KK
          (try simp only [Act.put, List.setIfInBounds_toArray, List.set_cons_zero, List.set_cons_succ])
          refine wpAnyH_ready (rs := [11]) (by kernel_rfl) (by simp) ?_
          refine AllReadyH.cons (o := _) (by simp only [List.getElem?_toArray, List.getElem?_cons_succ, List.getElem?_cons_zero]; rfl) (fun KK hK => ?_) AllReadyH.nil
          (obtain ⟨ds, hOw, hG, hnv, hnq⟩ := hO; have hlG := hG.1; refine step_app (by rfl) _ _ 42 (by rfl) 48 (.agg #[.int .i64 0, .int .i64 0, .slice none 0 0, .int .i64 0, .slice none 0 0, .bool false]) 6 80 Tryd.underlying42 infoGt rfl (by decide) (by decide) (n0 + 2) encGt _ ds rfl (hOw.alloc _) (⟨f, b, lk, .slice oy1 P.length cy1, .slice oy2 M.length cy2, bo⟩ : GtD) ⟨_, 0, none⟩ 1 rfl rfl (cells_new _ _ _) (by simp [encGt, Value.oneCell']) (by have := hnk.out; omega) (by simp only [World.size_alloc]; omega) ?_)
          intro v9 wz hO9 hg9 hb9 hf9
          have hO2 := gq_snoc (s := ((f, b, lk, P, M), bo)) hG ((Below.refl _ _).alloc (Nat.le_refl _) _) hO9 hg9 hf9 (Sh.below (S := shGt) ⟨⟨rfl, rfl, rfl, rfl⟩, y1.1, y2.1⟩ ((Below.refl _ _).alloc (Nat.le_refl _) _)) hnv (by simp only [World.size_alloc]; omega) hnq (sub3 (fun g h => ⟨by have := y1.2 g h; omega, by have := y1.2 g h; simp only [World.size_alloc]; omega, by have := y1.2 g h; omega, fun e => by have := y1.2 g h; have := hlo g e; omega⟩) (fun g h => ⟨by have := y2.2 g h; omega, by have := y2.2 g h; simp only [World.size_alloc]; omega, by have := y2.2 g h; omega, fun e => by have := y2.2 g h; have := hlo g e; omega⟩))
          have hsz9 := hb9.size
          simp only [World.size_alloc] at hsz9
          replace hF := (Fr.other (by repeat (first | with_reducible exact hF | with_reducible apply Fr.drew | with_reducible apply Fr.drewN | with_reducible apply Fr.other)) (.cells #[.int .i64 f, .int .i64 b, .slice oy1 P.length cy1, .int .i64 lk, .slice oy2 M.length cy2, .bool bo] 48)).grown hg9 (fun g' hg => by have := hOw.ge g' hg; have := HN.out; omega) (fun p hp e => by have := hOw.ge _ e; simp only [List.mem_cons, List.not_mem_nil, or_false] at hp; rcases hp with rfl | rfl; exact hnv e; simp at this <;> omega)
          replace hR := Rd.below (Rd.alloc (by repeat (first | assumption | apply Rd.alloc | apply Rd.drew | apply Rd.drewN | (refine Rd.setCell ?_ (by dsimp only; omega) _) | apply Rd.setCell | ((try dsimp only); omega))) (.cells #[.int .i64 f, .int .i64 b, .slice oy1 P.length cy1, .int .i64 lk, .slice oy2 M.length cy2, .bool bo] 48)) hb9 (by omega)
          obtain ⟨a9, c9, rfl⟩ := hO2.sl
          obtain ⟨n9, hn9⟩ : ∃ n9, Hid ((K ++ [((f, b, lk, P, M), bo)]).length = n9) := ⟨_, rfl⟩
          rw [hn9.out] at hO2 ⊢
          clear hg9 hb9 hf9 hO9 hOw hG o hlG
          have o := hF.own; simp only [World.size_alloc, World.size_drew, World.size_setCell, List.mem_cons, List.not_mem_nil, or_false, forall_eq_or_imp, forall_eq, At, and_true, Nat.zero_add, Nat.reduceAdd, List.set_cons_zero, List.set_cons_succ] at o
          refine hK.out _ _ ?hs (fun hHeld => ?_)
          case hs => ((try dsimp only); exact Fr.get (by repeat (first | with_reducible exact hF | with_reducible apply Fr.drew | with_reducible apply Fr.drewN | with_reducible apply Fr.other)) (List.mem_cons_self ..) rfl)
          clear hK KK
          (try simp only [Act.put, List.setIfInBounds_toArray, List.set_cons_zero, List.set_cons_succ])
          refine wpAnyH_take (i := 12) (oi := _) (v := ?_) (by simp only [List.getElem?_toArray, List.getElem?_cons_succ, List.getElem?_cons_zero]; rfl) (by kernel_rfl) (by kernel_rfl) (by kernel_rfl) (by exact fun _ _ _ h => h) (Or.inl ⟨by rfl, ?hy⟩) (by assumption) ?_
          case hy => (intro w hSw; (try dsimp only at hSw); go_simp; (try with_reducible rfl))
          (try simp only [Act.put, List.setIfInBounds_toArray, List.set_cons_zero, List.set_cons_succ])
          refine wpAnyH_ready (rs := [13]) (by kernel_rfl) (by simp) ?_
          refine AllReadyH.cons (o := _) (by simp only [List.getElem?_toArray, List.getElem?_cons_succ, List.getElem?_cons_zero]; rfl) (fun KK hK => ?_) AllReadyH.nil
          go_simp
          replace hF := hF.set 2 (.slice a9 n9 c9) (by simp) (by simp <;> omega)
          have hO := hO2.put (p := ⟨n4, 2, none⟩) rfl (.slice a9 n9 c9)
          refine hK.out _ _ ?hs (fun hHeld => ?_)
          case hs => ((try dsimp only); exact Fr.get (by repeat (first | with_reducible exact hF | with_reducible apply Fr.drew | with_reducible apply Fr.drewN | with_reducible apply Fr.other)) (List.mem_cons_self ..) rfl)
          clear hK KK
          (try simp only [Act.put, List.setIfInBounds_toArray, List.set_cons_zero, List.set_cons_succ])
          refine wpAnyH_done (by kernel_rfl) ?_ _
          clear hO2 o
          have o := hF.own; simp only [World.size_alloc, World.size_drew, World.size_setCell, List.mem_cons, List.not_mem_nil, or_false, forall_eq_or_imp, forall_eq, At, and_true, Nat.zero_add, Nat.reduceAdd, List.set_cons_zero, List.set_cons_succ] at o
          go_wp2_with fail
          obtain ⟨wf, hwf, hFf, hOf⟩ := put3w (Fr.two hF) (by simp <;> omega) hO.gown (by omega) (.int .i64 H) (.bool up) (.slice a9 n9 c9)
          rw [← hwf]
          clear hwf o hF hR hO
          have hF := hFf
          have o := hF.own; simp only [World.size_alloc, World.size_drew, World.size_setCell, List.mem_cons, List.not_mem_nil, or_false, forall_eq_or_imp, forall_eq, At, and_true, Nat.zero_add, Nat.reduceAdd, List.set_cons_zero, List.set_cons_succ] at o
          refine bodyPost_ret (v := .agg #[.int .i64 H, .bool up, .slice a9 n9 c9]) ?_ rfl ?_
          · simp [results, Tryd.results24, go_sem, o]
          · exact ⟨_, _, _, K ++ [((f, b, lk, P, M), bo)], rfl, hOf.base (by have := HN.out; omega), (by have := hnk.out; simp; omega), smg_snoc HKs.out (show SmG ((f, b, lk, P, M), bo) from ⟨(by have := hP4.1; omega : P.length ≤ 100), (by omega : M.length ≤ 100)⟩), hFf.kp.below (by have := HN.out; omega) (Nat.le_refl _)⟩
  · have d0 : (v5 == 0) = false := by simp [h0]
    go_wp2_with fail
    obtain ⟨wf, hwf, hFf, hOf⟩ := put3w (Fr.two hF) (by simp <;> omega) hO.gown (by omega) (.int .i64 H) (.bool up) (.slice au nk cu)
    rw [← hwf]
    clear hwf o hF hR hO
    have hF := hFf
    have o := hF.own; simp only [World.size_alloc, World.size_drew, World.size_setCell, List.mem_cons, List.not_mem_nil, or_false, forall_eq_or_imp, forall_eq, At, and_true, Nat.zero_add, Nat.reduceAdd, List.set_cons_zero, List.set_cons_succ] at o
    refine bodyPost_ret (v := .agg #[.int .i64 H, .bool up, .slice au nk cu]) ?_ rfl ?_
    · simp [results, Tryd.results24, go_sem, o]
    · exact ⟨_, _, _, K, rfl, hOf.base (by have := HN.out; omega), (by have := hnk.out; omega), HKs.out, hFf.kp.below (by have := HN.out; omega) (Nat.le_refl _)⟩
end Go.Proofs.YtonojegnbcgnaaaDoor
set_option linter.unusedSimpArgs false
set_option linter.unusedVariables false
namespace Go.Proofs.YtonojegnbcgnaaaDoor
open Go.RowKit

theorem rc_ok {f b g c : Int} (h1 : ROk f b) (h2 : ROk g c) : RC f b g c = rcmp f b g c := by unfold RC; rw [if_pos ⟨h1, h2⟩]
set_option maxHeartbeats 4000000 in
theorem iRoutesOk_any (v : Value) (L : List Rt) (a : Addr) (w : World) (hv : Rts w v L) (hE : EPath w a) :
    Calls Tryd.prog 22 #[v] w fun e w' => e = .returned (.bool (decide (RsOk L))) ∧ Below w.heap.size w w' := by
  have hF := Fb.start w
  obtain ⟨ao, n, cap, rfl, hn, hnc, hcap⟩ := GLs.sl hv
  have HV := Lib.hid hv
  have HE := Lib.hid hE
  clear hv hE
  by_cases h12 : n ≤ 12
  · have d12 : decide (12 < (n : Int)) = false := decide_eq_false (by omega)
    have H12 := Lib.hid h12
    go_enter Tryd.func22, Tryd.ntmps22
    go_wp2
    go_loopw [3, 4, 10] (fun s3 s4 s10 wr => ∃ k : Nat, k ≤ n ∧ s10 = .int .i64 k ∧ Hid (∀ j, j < k → RsStep L j) ∧ Fb w wr []) (fun _ _ i _ => n - (intOf i).toNat)
    case atStart => exact ⟨0, Nat.zero_le _, rfl, fun s h => (by omega), hF⟩
    case round =>
      clear hF
      obtain ⟨k, hk, rfl, hz, hF⟩ := hrel
      by_cases hlt : k < n
      · obtain ⟨b1, p1, rfl⟩ := GLs.adr HV.out (by omega)
        obtain ⟨s, hs⟩ := get_of hn.out hlt
        have HS := Lib.hid hs
        obtain ⟨f, b, lk, P, M⟩ := s
        obtain ⟨a1, m1, c1, a2, m2, c2, e0, e1, e2, e3, e4, i1, i2⟩ := Rts.at HV.out hs
        have x0 := hF.old e0
        have x1 := hF.old e1
        have x2 := hF.old e2
        have x3 := hF.old e3
        have x4 := hF.old e4
        obtain ⟨wa, hwa⟩ : ∃ wa, wr.alloc (.cells #[.int .i64 f, .int .i64 b, .slice a1 m1 c1, .int .i64 lk, .slice a2 m2 c2] 27) = wa := ⟨_, rfl⟩
        obtain ⟨n4, hn4⟩ : ∃ n4, wr.heap.size = n4 := ⟨_, rfl⟩
        have hF2 : Fb w wa [(n4, [.int .i64 f, .int .i64 b, .slice a1 m1 c1, .int .i64 lk, .slice a2 m2 c2])] := by rw [← hwa, ← hn4]; exact hF.alloc _ _
        clear hs
        go_wp2
        clear hF x0 x1 x2 x3 x4 hn4
        have hF := hF2
        clear hF2 hwa
        have oc := fun x : Cl _ wa => (Fb.cl hF x).own; simp only [World.size_alloc, World.size_drew, World.size_setCell, List.mem_cons, List.not_mem_nil, or_false, forall_eq_or_imp, forall_eq, At, and_true, Nat.zero_add, Nat.reduceAdd, List.set_cons_zero, List.set_cons_succ] at oc
        by_cases hq : RtOk f b P lk M
        · have cO := Lib.hid (fun z : Cl wa.heap.size wa => (show Calls Tryd.prog 20 #[.agg #[.int .i64 f, .int .i64 b, .slice a1 m1 c1, .int .i64 lk, .slice a2 m2 c2]] z.W fun e w' => e = .returned (.bool true) ∧ Below z.W.heap.size z.W w' from by have := iRouteOk_any f b lk _ _ P M a z.W (Rows.below i1 (hF.cl z).kp) (Rows.below i2 (hF.cl z).kp) (HE.out.below (hF.cl z).kp); rwa [decide_eq_true hq] at this))
          clear e0 e1 e2 e3 e4 i1 i2
          by_cases h0 : k = 0
          · subst h0
            have hA : Hid (∀ j, j < 0 + 1 → RsStep L j) := rs_go hz.out ((rs_0 HS.out).2 hq)
            clear hq hz
            first | refine wp_region_new (by kernel_rfl) (by kernel_rfl) ?_ | refine wp_region_lex ?_
            repeat (any_goals (first | go_big_quiet_step (((go_at_call 20; exact Calls.cl (cO.out _)))) | (refine wpQuiet_step (fun K hK => ?_); go_simp; split <;> (rename_i hg; refine hK _ ?_; clear hK K; simp only [hg, decide_true, decide_false]))))
            all_goals (refine wpQuiet_nil ?_; intro x)
            go_wp2
            go_roundw
            case rel => exact ⟨1, by omega, by go_num, hA, (hF.cl ‹_›).rest⟩
            case measure => simp [intOf]; omega
          · obtain ⟨t, ht⟩ := get_of hn.out (show k - 1 < n by omega)
            have HT := Lib.hid ht
            have hpr := rs_r ht (hz.out (k - 1) (by omega))
            obtain ⟨g, c, l2, P2, M2⟩ := t
            obtain ⟨a3, m3, c3, a4, m4, c4, g0, g1, -, -, -, -, -⟩ := Rts.at HV.out ht
            have y0 := fun z : Cl wa.heap.size wa => Cl.old hF z g0
            have y1 := fun z : Cl wa.heap.size wa => Cl.old hF z g1
            obtain ⟨N, hN⟩ : ∃ N, rcmp g c f b = N := ⟨_, rfl⟩
            have cC := Lib.hid (fun z : Cl wa.heap.size wa => (show Calls Tryd.prog 54 #[.agg #[.int .i64 g, .int .i64 c], .agg #[.int .i64 f, .int .i64 b]] z.W fun e w' => e = .returned (.int .i64 N) ∧ Below z.W.heap.size z.W w' from by have := iRangeCmp_any g c f b z.W; rwa [rc_ok hpr.1 hq.1, hN] at this))
            have HN := Lib.hid hN
            have HQ := Lib.hid hq
            have k1 : ((k : Int) - 1).toNat = k - 1 := by omega
            have k2 : IntKind.i64.wrap ((k : Int) - 1) = (k : Int) - 1 := IntWalk.i64_in _ (by omega)
            have k3 : (1 : Int) ≤ (k : Int) := by omega
            have k4 : (k : Int) - 1 < (n : Int) := by omega
            have k5 : decide (0 < (k : Int)) = true := decide_eq_true (by omega)
            have k6 : decide (0 < k) = true := decide_eq_true (by omega)
            have k7 : (0 : Int) ≤ (k : Int) - 1 := by omega
            clear ht g0 g1 hN hq hpr
            by_cases hlz : N < 0
            · have hA : Hid (∀ j, j < k + 1 → RsStep L j) := rs_go hz.out ((rs_s (by omega) HT.out HS.out).2 ⟨HQ.out, by unfold rcS; rw [show rcmp g c f b = N from HN.out]; exact hlz⟩)
              have dN : decide (0 ≤ N) = false := decide_eq_false (by omega)
              clear hlz
              first | refine wp_region_new (by kernel_rfl) (by kernel_rfl) ?_ | refine wp_region_lex ?_
              repeat (any_goals (first | go_big_quiet_step ((first | (go_at_call 20; exact Calls.cl (cO.out _)) | (go_at_call 54; exact Calls.cl (cC.out _)))) | (refine wpQuiet_step (fun K hK => ?_); go_simp; split <;> (rename_i hg; refine hK _ ?_; clear hK K; simp only [hg, decide_true, decide_false]))))
              all_goals (refine wpQuiet_nil ?_; intro x)
              go_wp2
              go_roundw
              case rel => exact ⟨k + 1, by omega, by go_num, hA, (hF.cl ‹_›).rest⟩
              case measure => simp [intOf]; omega
            · have hr : Hid (decide (RsOk L) = false) := rs_no hn.out hlt (fun g9 => hlz (by have := ((rs_s (by omega) HT.out HS.out).1 g9).2; unfold rcS at this; rw [show rcmp g c f b = N from HN.out] at this; exact this))
              have dN : decide (0 ≤ N) = true := decide_eq_true (by omega)
              clear hlz
              first | refine wp_region_new (by kernel_rfl) (by kernel_rfl) ?_ | refine wp_region_lex ?_
              repeat (any_goals (first | go_big_quiet_step ((first | (go_at_call 20; exact Calls.cl (cO.out _)) | (go_at_call 54; exact Calls.cl (cC.out _)))) | (refine wpQuiet_step (fun K hK => ?_); go_simp; split <;> (rename_i hg; refine hK _ ?_; clear hK K; simp only [hg, decide_true, decide_false]))))
              all_goals (refine wpQuiet_nil ?_; intro x)
              go_wp2
              go_ret
              exact ⟨by rw [hr.out]; rfl, (hF.cl ‹_›).kp⟩
        · have cO := Lib.hid (fun z : Cl wa.heap.size wa => (show Calls Tryd.prog 20 #[.agg #[.int .i64 f, .int .i64 b, .slice a1 m1 c1, .int .i64 lk, .slice a2 m2 c2]] z.W fun e w' => e = .returned (.bool false) ∧ Below z.W.heap.size z.W w' from by have := iRouteOk_any f b lk _ _ P M a z.W (Rows.below i1 (hF.cl z).kp) (Rows.below i2 (hF.cl z).kp) (HE.out.below (hF.cl z).kp); rwa [decide_eq_false hq] at this))
          have hr : Hid (decide (RsOk L) = false) := rs_no hn.out hlt (fun g => hq (rs_r HS.out g))
          clear e0 e1 e2 e3 e4 i1 i2 hq
          first | refine wp_region_new (by kernel_rfl) (by kernel_rfl) ?_ | refine wp_region_lex ?_
          repeat (any_goals (first | go_big_quiet_step (((go_at_call 20; exact Calls.cl (cO.out _)))) | (refine wpQuiet_step (fun K hK => ?_); go_simp; split <;> (rename_i hg; refine hK _ ?_; clear hK K; simp only [hg, decide_true, decide_false]))))
          all_goals (refine wpQuiet_nil ?_; intro x)
          go_wp2
          go_ret
          exact ⟨by rw [hr.out]; rfl, (hF.cl ‹_›).kp⟩
      · have hr : Hid (decide (RsOk L) = true) := rs_yes hn.out H12.out (fun j hj => hz.out j (by omega))
        go_wp2
        go_ret
        exact ⟨by rw [hr.out]; rfl, hF.kp⟩
  · have d12 : decide (12 < (n : Int)) = true := decide_eq_true (by omega)
    have hr : Hid (decide (RsOk L) = false) := rs_long hn.out h12
    go_enter Tryd.func22, Tryd.ntmps22
    go_wp2
    go_ret
    exact ⟨by rw [hr.out]; rfl, hF.kp⟩
end Go.Proofs.YtonojegnbcgnaaaDoor
