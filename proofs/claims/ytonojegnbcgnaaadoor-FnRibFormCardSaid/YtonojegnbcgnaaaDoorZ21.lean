/- What a house told, drawn. -/
import Derived.Test.YtonojegnbcgnaaaDoorZ18
import Derived.Test.YtonojegnbcgnaaaDoorZ20
import Derived.Test.YtonojegnbcgnaaaDoorZ15
set_option linter.unusedSimpArgs false
set_option linter.unusedVariables false
namespace Go.Proofs.YtonojegnbcgnaaaDoor
open Go.RowKit

theorem GO2.kpR {δ β : Type} {S : Sh δ β} {E : TypeId} {w w' : World} {R B r : Nat} {v : Value} {L : List β} (h : GO2 S E w R B v L) (K : Kp r w w') (h1 : r < R) (h2 : r < B) : GO2 S E w' R B v L := by
  obtain ⟨ds, k1, k2⟩ := h; exact ⟨ds, k1.kp K h1, (k2.kp K h2).mono (Nat.le_refl _) K.size⟩
theorem GOwn.go2R {δ β : Type} {S : Sh δ β} {E : TypeId} {w : World} {B : Nat} {v : Value} {L : List β} (h : GOwn S E w B v L) (R' B' : Nat) (h1 : R' ≤ B) (h2 : B' ≤ B) : GO2 S E w R' B' v L := by
  obtain ⟨ds, k1, k2⟩ := h; exact ⟨ds, k1.base h1, k2.mono h2 (Nat.le_refl _)⟩
theorem put3r {δ β : Type} {S : Sh δ β} {E : TypeId} {r k n R B : Nat} {W w : World} {z0 z1 z2 v : Value} {K : List β} {L : List (Nat × List Value)} (hF : Fr r W w ((n, [z0, z1, z2]) :: L)) (hL : ∀ q ∈ L, q.1 ≠ n) (hR : Rd w r k) (hr : r < n) (hO : GO2 S E w R B v K) (hv : v.ownBlock ≠ some n) (hB : n < B) (u0 u1 u2 : Value) :
    ∃ w', w' = ((w.setCell ⟨n, 0, none⟩ u0).setCell ⟨n, 1, none⟩ u1).setCell ⟨n, 2, none⟩ u2 ∧ Fr r W w' ((n, [u0, u1, u2]) :: L) ∧ Rd w' r k ∧ GO2 S E w' R B v K ∧ w'.heap.size = w.heap.size :=
  ⟨_, rfl, ((hF.set 0 u0 (by simp) hL).set 1 u1 (by simp) hL).set 2 u2 (by simp) hL, ((hR.setCell (p := ⟨n, 0, none⟩) hr u0).setCell (p := ⟨n, 1, none⟩) hr u1).setCell (p := ⟨n, 2, none⟩) hr u2, ((hO.put (p := ⟨n, 0, none⟩) hv hB u0).put (p := ⟨n, 1, none⟩) hv hB u1).put (p := ⟨n, 2, none⟩) hv hB u2, by simp only [World.size_setCell]⟩
theorem Fr.get {r : Nat} {W w : World} {L : List (Nat × List Value)} (h : Fr r W w L) {b : Nat} {vs : List Value} (hm : (b, vs) ∈ L) {j : Nat} {v : Value} (hj : vs[j]? = some v) : w.cell? ⟨b, j, none⟩ = some v := by
  have := At.get vs 0 j v (h.own _ hm).1 hj
  rwa [Nat.zero_add] at this
theorem Fr.c30 {r n : Nat} {W w : World} {a b c : Value} {L : List (Nat × List Value)} (h : Fr r W w ((n, [a, b, c]) :: L)) : w.cell? ⟨n, 0, none⟩ = some a ∧ w.cell? ⟨n, 1, none⟩ = some b ∧ w.cell? ⟨n, 2, none⟩ = some c :=
  ⟨h.get (List.mem_cons_self ..) rfl, h.get (List.mem_cons_self ..) rfl, h.get (List.mem_cons_self ..) rfl⟩
theorem Fr.c31 {r n : Nat} {W w : World} {a b c : Value} {q : Nat × List Value} {L : List (Nat × List Value)} (h : Fr r W w (q :: (n, [a, b, c]) :: L)) : w.cell? ⟨n, 0, none⟩ = some a ∧ w.cell? ⟨n, 1, none⟩ = some b ∧ w.cell? ⟨n, 2, none⟩ = some c :=
  ⟨h.get (List.mem_cons_of_mem _ (List.mem_cons_self ..)) rfl, h.get (List.mem_cons_of_mem _ (List.mem_cons_self ..)) rfl, h.get (List.mem_cons_of_mem _ (List.mem_cons_self ..)) rfl⟩
theorem It.allocd {w : World} {v : Value} {L : List Int} (h : It w v L) (o : Obj) : It (w.alloc o) v L := h.below ((Below.refl _ _).alloc (Nat.le_refl _) _)
section
variable {δ β : Type} {S : Sh δ β} {E : TypeId} {w w' : World} {R B U : Nat} {v : Value} {L : List β}
/-- One's own row from R on and below U; what it holds from B on and below U. -/
def GO4 (S : Sh δ β) (E : TypeId) (w : World) (R B U : Nat) (v : Value) (L : List β) : Prop := ∃ ds, Own E w R v S.sz S.enc ds ∧ GRel S w B U v ds L ∧ ∀ g, v.ownBlock = some g → g < U
theorem GO2.go4 (h : GO2 S E w R B v L) : GO4 S E w R B w.heap.size v L := by
  obtain ⟨ds, k1, k2⟩ := h; exact ⟨ds, k1, k2, k1.lt⟩
theorem GO4.go2 (h : GO4 S E w R B U v L) (hU : U ≤ w.heap.size) (R' B' : Nat) (h1 : R' ≤ R) (h2 : B' ≤ B) : GO2 S E w R' B' v L := by
  obtain ⟨ds, k1, k2, k3⟩ := h; exact ⟨ds, k1.base h1, k2.mono h2 hU⟩
theorem GO4.below (h : GO4 S E w R B U v L) (K : Below w.heap.size w w') : GO4 S E w' R B U v L := by
  obtain ⟨ds, k1, k2, k3⟩ := h; exact ⟨ds, k1.below K, k2.below K, k3⟩
theorem GO4.alloc (h : GO4 S E w R B U v L) (o : Obj) : GO4 S E (w.alloc o) R B U v L := h.below ((Below.refl _ _).alloc (Nat.le_refl _) _)
theorem GO4.drew (h : GO4 S E w R B U v L) : GO4 S E w.drew R B U v L := h.below (Below.refl _ _).drew
theorem GO4.kp {r : Nat} (h : GO4 S E w R B U v L) (K : Kp r w w') (h1 : r < R) (h2 : r < B) : GO4 S E w' R B U v L := by
  obtain ⟨ds, k1, k2, k3⟩ := h; exact ⟨ds, k1.kp K h1, k2.kp K h2, k3⟩
theorem GO4.put (h : GO4 S E w R B U v L) {p : Addr} (hp : (p.block < R ∧ p.block < B) ∨ U ≤ p.block) (u : Value) : GO4 S E (w.setCell p u) R B U v L := by
  obtain ⟨ds, h1, h2, h3⟩ := h
  exact ⟨ds, h1.put' (E' := E) (fun e => by have := h1.ge _ e; have := h3 _ e; omega) u, h2.far (grown_setC w p u) (fun g hb hu e => by injection e with e; omega), h3⟩
theorem GO4.ge (h : GO4 S E w R B U v L) : ∀ g, v.ownBlock = some g → R ≤ g ∧ g < U := by
  obtain ⟨ds, h1, h2, h3⟩ := h; exact fun g hg => ⟨h1.ge g hg, h3 g hg⟩
theorem GO4.gls (h : GO4 S E w R B U v L) : GLs S w v L := by
  obtain ⟨ds, h1, h2, h3⟩ := h
  exact ⟨ds, h1.rows S.len, h2.1, fun k s hk => by obtain ⟨d, a, b, -⟩ := h2.2 k s hk; exact ⟨d, a, b⟩⟩
end
theorem put3q {r n : Nat} {W w : World} {z0 z1 z2 : Value} {L : List (Nat × List Value)} (hF : Fr r W w ((n, [z0, z1, z2]) :: L)) (hL : ∀ q ∈ L, q.1 ≠ n) (u0 u1 u2 : Value) :
    ∃ w', w' = ((w.setCell ⟨n, 0, none⟩ u0).setCell ⟨n, 1, none⟩ u1).setCell ⟨n, 2, none⟩ u2 ∧ Fr r W w' ((n, [u0, u1, u2]) :: L) ∧ w'.heap.size = w.heap.size ∧ (∀ k, r < n → Rd w r k → Rd w' r k) ∧ ∀ {δ β : Type} (S : Sh δ β) (E : TypeId) (R B U : Nat) (v : Value) (K : List β), (n < R ∧ n < B) ∨ U ≤ n → GO4 S E w R B U v K → GO4 S E w' R B U v K :=
  ⟨_, rfl, ((hF.set 0 u0 (by simp) hL).set 1 u1 (by simp) hL).set 2 u2 (by simp) hL, by simp only [World.size_setCell], fun k hr h => ((h.setCell (p := ⟨n, 0, none⟩) hr u0).setCell (p := ⟨n, 1, none⟩) hr u1).setCell (p := ⟨n, 2, none⟩) hr u2, fun _ _ _ _ _ _ _ hn h => ((h.put (p := ⟨n, 0, none⟩) hn u0).put (p := ⟨n, 1, none⟩) hn u1).put (p := ⟨n, 2, none⟩) hn u2⟩
/-- What stands while a rib is drawn: the reader, the rib at n2, its row. -/
def LrS (r : Nat) (w wx : World) (n1 n2 k m : Nat) : Prop := ∃ (H : Int) (up : Bool) (u : Value) (K : List Gt), K.length ≤ m ∧ (∀ s ∈ K, SmG s) ∧ u.ownBlock ≠ some n2 ∧ n2 < wx.heap.size ∧ GO2 shGt 48 wx (n1 + 1) (n2 + 1) u K ∧ Rd wx r k ∧ Fr r w wx [(n2, [.int .i64 H, .bool up, u]), (n1, [.int .i64 0, .bool false, .slice none 0 0])]
set_option maxRecDepth 100000 in
set_option maxHeartbeats 8000000 in
theorem l92Rib_any (r k : Nat) (h : Int) (w : World) (hR : Rd w r k) (hk : k ≤ 500000) (hh : Bts h 1 5) :
    Calls Tryd.prog 62 #[.pointer (some ⟨r, 0, none⟩), .int .i64 h] w fun e w' => ∃ (H : Int) (up : Bool) (u : Value) (K : List Gt), e = .returned (.agg #[.int .i64 H, .bool up, u]) ∧ GOwn shGt 48 w' w.heap.size u K ∧ K.length ≤ 7 ∧ (∀ s ∈ K, SmG s) ∧ (∃ k', k' ≤ k + 2000 ∧ Rd w' r k') ∧ Kp r w w' := by
  have hr := hR.lt
  have hF := (((Fr.start r w).alloc [.int .i64 0, .bool false, .slice none 0 0] 44 hr).other (.cells #[] 48)).alloc [.int .i64 h, .bool true, .slice (some ⟨w.heap.size + 1, 0, none⟩) 0 0] 44 (by simp only [World.size_alloc]; omega)
  have hO := (GO2.made (S := shGt) 48 (w.alloc (.cells #[.int .i64 0, .bool false, .slice none 0 0] 44)) (w.heap.size + 1) (w.heap.size + 3) (by simp)).alloc (.cells #[.int .i64 h, .bool true, .slice (some ⟨w.heap.size + 1, 0, none⟩) 0 0] 44)
  replace hR := ((hR.alloc (.cells #[.int .i64 0, .bool false, .slice none 0 0] 44)).alloc (.cells #[] 48)).alloc (.cells #[.int .i64 h, .bool true, .slice (some ⟨w.heap.size + 1, 0, none⟩) 0 0] 44)
  simp only [World.size_alloc] at hF hO
  obtain ⟨n1, hn1⟩ : ∃ n, w.heap.size = n := ⟨_, rfl⟩
  rw [hn1] at hF hO hr hR
  have HN := Lib.hid hn1
  obtain ⟨n2, hn2⟩ : ∃ n2, n1 + 1 + 1 = n2 := ⟨_, rfl⟩
  have h2a : n1 + 2 ≤ n2 := by omega
  have h2b : n2 ≤ n1 + 2 := by omega
  have hS0 : Hid (LrS r w (((w.alloc (.cells #[.int .i64 0, .bool false, .slice none 0 0] 44)).alloc (.cells #[] 48)).alloc (.cells #[.int .i64 h, .bool true, .slice (some ⟨n1 + 1, 0, none⟩) 0 0] 44)) n1 n2 k 6) := by
    subst hn2
    exact ⟨h, true, _, [], by simp, fun s h => (by simp at h), (by simp [Value.ownBlock]), by simp only [World.size_alloc]; omega, hO, hR, hF⟩
  clear hF hO hR
  go_enter Tryd.func62, Tryd.ntmps62
  go_wp2_with fail
  clear hn1 hn2
  obtain ⟨w0, hw0⟩ : ∃ w0, ((w.alloc (.cells #[.int .i64 0, .bool false, .slice none 0 0] 44)).alloc (.cells #[] 48)).alloc (.cells #[.int .i64 h, .bool true, .slice (some ⟨n1 + 1, 0, none⟩) 0 0] 44) = w0 := ⟨_, rfl⟩
  rw [hw0] at hS0 ⊢
  clear hw0
  have hS := hS0.out
  clear hS0
  obtain ⟨H, up, u, K, hKl, hKs, hne, hsz, hO, hR, hF⟩ := hS
  refine (pick_any r _ _ _ hR (by omega) (by omega) (by omega)).mono ?_; rintro e w1 ⟨v1, rfl, x1, l1, hR1, hK1⟩
  obtain ⟨m0, rfl⟩ := Int.eq_ofNat_of_zero_le x1
  have hS : LrS r w w1 n1 n2 (k + 1) 6 := ⟨H, up, u, K, hKl, hKs, hne, by have := hK1.size; omega, hO.kpR hK1 (by omega) (by omega), hR1, hF.call hK1⟩
  clear hKl hKs hne hsz hO hR hF hK1 hR1 u K H up
  go_wp2_with fail
  go_loopw [6, 7, 8] (fun s6 s7 s8 wr => ∃ m k' : Nat, m ≤ m0 ∧ s6 = .int .i64 m ∧ k' + m * 150 ≤ k + 1 + m0 * 150 ∧ LrS r w wr n1 n2 k' 6) (fun s6 _ _ _ => (intOf s6).toNat)
  case atStart => exact ⟨m0, k + 1, Nat.le_refl _, rfl, by omega, hS⟩
  case round =>
    clear hS
    obtain ⟨m, k', hm, rfl, hk', hS⟩ := hrel
    obtain ⟨H, up, u, K, hKl, hKs, hne, hsz, hO, hR, hF⟩ := hS
    obtain ⟨au, cu, rfl⟩ := hO.sl
    obtain ⟨nk, hnk⟩ : ∃ nk, Hid (K.length = nk) := ⟨_, rfl⟩
    rw [hnk.out] at hO hF hne hKl
    have HKs := Lib.hid hKs
    clear hKs
    have o := hF.own; simp only [World.size_alloc, World.size_drew, World.size_setCell, List.mem_cons, List.not_mem_nil, or_false, forall_eq_or_imp, forall_eq, At, and_true, Nat.zero_add, Nat.reduceAdd, List.set_cons_zero, List.set_cons_succ] at o
    by_cases hlt : 0 < m
    · obtain ⟨m', hm1, hm2⟩ : ∃ m', m' + 1 ≤ m ∧ m ≤ m' + 1 := ⟨m - 1, by omega, by omega⟩
      have hlt' : 0 < (m : Int) := by omega
      have hsub : (m : Int) - 1 = (m' : Int) := by omega
      go_wp2_with fail
      refine (pick_any r _ _ _ hR (by omega) (by omega) (by omega)).mono ?_; rintro e w3 ⟨v3, rfl, x3, l3, hR3, hK3⟩
      have hs3 := hK3.size
      replace hF := hF.call hK3
      replace hO := hO.kpR hK3 (by omega) (by omega)
      have hR := hR3
      clear hK3 hR3 o
      have o := hF.own; simp only [World.size_alloc, World.size_drew, World.size_setCell, List.mem_cons, List.not_mem_nil, or_false, forall_eq_or_imp, forall_eq, At, and_true, Nat.zero_add, Nat.reduceAdd, List.set_cons_zero, List.set_cons_succ] at o
      by_cases h0 : v3 = 0
      · subst h0
        go_upto_region 10 with (fail)
        refine wp_region_held_drew (S := fun _ => True) (by kernel_rfl) ?hs (fun hHeld => ?_)
        case hs => exact trivial
        refine wpAnyH_take (i := 1) (oi := _) (v := ?_) (by simp only [List.getElem?_toArray, List.getElem?_cons_succ, List.getElem?_cons_zero]; rfl) (by kernel_rfl) (by kernel_rfl) (by kernel_rfl) (by exact fun _ _ _ h => h) (Or.inl ⟨by rfl, ?hy⟩) (by assumption) ?_
        case hy => (intro w hSw; (try dsimp only at hSw); go_simp; (try with_reducible rfl))
        (try simp only [Act.put, List.setIfInBounds_toArray, List.set_cons_zero, List.set_cons_succ])
        refine wpAnyH_ready (rs := [0, 2]) (by kernel_rfl) (by simp) ?_
        refine AllReadyH.cons (o := _) (by simp only [List.getElem?_toArray, List.getElem?_cons_succ, List.getElem?_cons_zero]; rfl) (fun KK hK => ?_) (AllReadyH.cons (o := _) (by simp only [List.getElem?_toArray, List.getElem?_cons_succ, List.getElem?_cons_zero]; rfl) (fun KK hK => ?_) AllReadyH.nil)
        · go_simp
          refine hK.out _ _ ?hs (fun hHeld => ?_)
          case hs => exact trivial
          clear hK KK
          (try simp only [Act.put, List.setIfInBounds_toArray, List.set_cons_zero, List.set_cons_succ])
          refine wpAnyH_ready (rs := [2]) (by kernel_rfl) (by simp) ?_
          refine AllReadyH.cons (o := _) (by simp only [List.getElem?_toArray, List.getElem?_cons_succ, List.getElem?_cons_zero]; rfl) (fun KK hK => ?_) AllReadyH.nil
          go_simp
          (go_at_call 37; go_must (refine (pick_any r _ _ _ (by repeat (first | assumption | apply Rd.alloc | apply Rd.drew | apply Rd.drewN | (refine Rd.setCell ?_ (by dsimp only; omega) _) | apply Rd.setCell | ((try dsimp only); omega))) (by omega) (by omega) (by omega)).mono ?_); rintro e w4 ⟨v4, rfl, x4, l4, hR4, hK4⟩; replace hF := Fr.call (by repeat (first | assumption | apply Fr.drew | apply Fr.drewN | apply Fr.alloc_1 | apply Fr.alloc_2 | apply Fr.alloc_3 | apply Fr.alloc_4 | apply Fr.alloc_5 | apply Fr.alloc_8 | apply Fr.set | (simp only [List.length_cons, List.length_nil, List.length_set]; omega) | (simp only [List.mem_cons, List.not_mem_nil, or_false, forall_eq_or_imp, forall_eq, ne_eq]; omega) | (simp only [World.size_alloc, World.size_setCell, World.size_drew]; omega) | omega)) hK4; replace hO := GO2.kpR (by repeat (first | with_reducible exact hO | with_reducible apply GO2.drew | with_reducible apply GO2.alloc)) hK4 (by omega) (by omega); have hs4 := hK4.size; simp only [World.size_drew] at hs4; replace hR := hR4; clear hK4 hR4 o; have o := hF.own; simp only [World.size_alloc, World.size_drew, World.size_setCell, List.mem_cons, List.not_mem_nil, or_false, forall_eq_or_imp, forall_eq, At, and_true, Nat.zero_add, Nat.reduceAdd, List.set_cons_zero, List.set_cons_succ] at o)
          (try go_wp2_with fail)
          refine hK.out _ _ ?hs (fun hHeld => ?_)
          case hs => exact trivial
          clear hK KK
          (try simp only [Act.put, List.setIfInBounds_toArray, List.set_cons_zero, List.set_cons_succ])
          refine wpAnyH_take (i := 3) (oi := _) (v := ?_) (by simp only [List.getElem?_toArray, List.getElem?_cons_succ, List.getElem?_cons_zero]; rfl) (by kernel_rfl) (by kernel_rfl) (by kernel_rfl) (by exact fun _ _ _ h => h) (Or.inl ⟨by rfl, ?hy⟩) (by assumption) ?_
          case hy => (intro w hSw; (try dsimp only at hSw); go_simp; (try with_reducible rfl))
          (try simp only [Act.put, List.setIfInBounds_toArray, List.set_cons_zero, List.set_cons_succ])
          refine wpAnyH_ready (rs := [4]) (by kernel_rfl) (by simp) ?_
          refine AllReadyH.cons (o := _) (by simp only [List.getElem?_toArray, List.getElem?_cons_succ, List.getElem?_cons_zero]; rfl) (fun KK hK => ?_) AllReadyH.nil
          go_simp
          (go_at_call 95; go_must (refine (RibDown_any H up _ _ K _ (GO2.gls (by repeat (first | with_reducible exact hO | with_reducible apply GO2.drew | with_reducible apply GO2.alloc))) HKs.out).mono ?_); rintro e w7 ⟨H7, up7, u7, K7, rfl, hR7⟩; obtain ⟨hO7, hl7, hs7, hb7⟩ := hR7; obtain ⟨a7, c7, rfl⟩ := hO7.sl; have hv7 := fun e => (by have := hO7.ge n2 e; (try simp only [World.size_drew] at this); omega : False); replace hR := Rd.below (by repeat (first | assumption | apply Rd.alloc | apply Rd.drew | apply Rd.drewN | (refine Rd.setCell ?_ (by dsimp only; omega) _) | apply Rd.setCell | ((try dsimp only); omega))) hb7 (by have := hR.lt; (try simp only [World.size_drew]); omega); replace hF := Fr.below (by repeat (first | assumption | apply Fr.drew | apply Fr.drewN | apply Fr.alloc_1 | apply Fr.alloc_2 | apply Fr.alloc_3 | apply Fr.alloc_4 | apply Fr.alloc_5 | apply Fr.alloc_8 | apply Fr.set | (simp only [List.length_cons, List.length_nil, List.length_set]; omega) | (simp only [List.mem_cons, List.not_mem_nil, or_false, forall_eq_or_imp, forall_eq, ne_eq]; omega) | (simp only [World.size_alloc, World.size_setCell, World.size_drew]; omega) | omega)) hb7; have hz7 := hb7.size; (try simp only [World.size_drew] at hz7); replace hO7 := hO7.go2R (n1 + 1) (n2 + 1) (by (try simp only [World.size_drew]); omega) (by (try simp only [World.size_drew]); omega); clear hb7 o; have o := hF.own; simp only [World.size_alloc, World.size_drew, World.size_setCell, List.mem_cons, List.not_mem_nil, or_false, forall_eq_or_imp, forall_eq, At, and_true, Nat.zero_add, Nat.reduceAdd, List.set_cons_zero, List.set_cons_succ] at o)
          (try go_wp2_with fail)
          refine hK.out _ _ ?hs (fun hHeld => ?_)
          case hs => exact trivial
          clear hK KK
          (try simp only [Act.put, List.setIfInBounds_toArray, List.set_cons_zero, List.set_cons_succ])
          refine wpAnyH_ready (rs := [5]) (by kernel_rfl) (by simp) ?_
          refine AllReadyH.cons (o := _) (by simp only [List.getElem?_toArray, List.getElem?_cons_succ, List.getElem?_cons_zero]; rfl) (fun KK hK => ?_) AllReadyH.nil
          go_simp
          obtain ⟨wz, hwz, hF2, hR2, hO2, hszz⟩ := put3r hF (by simp <;> omega) hR (by omega) hO7 hv7 (by omega) (.int .i64 H7) (.bool up7) (.slice a7 K7.length c7)
          rw [← hwz]
          clear hwz o hF hR hO7
          refine hK.out _ _ ?hs (fun hHeld => ?_)
          case hs => exact trivial
          clear hK KK
          (try simp only [Act.put, List.setIfInBounds_toArray, List.set_cons_zero, List.set_cons_succ])
          refine wpAnyH_done (by kernel_rfl) ?_ _
          go_wp2_with fail
          go_roundw
          case rel => exact ⟨m', (k' + 1 + 1), by omega, by go_num, by omega, H7, up7, _, K7, hl7, hs7, hv7, by rw [hszz]; omega, hO2, hR2, hF2⟩
          case measure => simp [intOf]; omega
        ·
          go_simp
          (go_at_call 37; go_must (refine (pick_any r _ _ _ (by repeat (first | assumption | apply Rd.alloc | apply Rd.drew | apply Rd.drewN | (refine Rd.setCell ?_ (by dsimp only; omega) _) | apply Rd.setCell | ((try dsimp only); omega))) (by omega) (by omega) (by omega)).mono ?_); rintro e w4 ⟨v4, rfl, x4, l4, hR4, hK4⟩; replace hF := Fr.call (by repeat (first | assumption | apply Fr.drew | apply Fr.drewN | apply Fr.alloc_1 | apply Fr.alloc_2 | apply Fr.alloc_3 | apply Fr.alloc_4 | apply Fr.alloc_5 | apply Fr.alloc_8 | apply Fr.set | (simp only [List.length_cons, List.length_nil, List.length_set]; omega) | (simp only [List.mem_cons, List.not_mem_nil, or_false, forall_eq_or_imp, forall_eq, ne_eq]; omega) | (simp only [World.size_alloc, World.size_setCell, World.size_drew]; omega) | omega)) hK4; replace hO := GO2.kpR (by repeat (first | with_reducible exact hO | with_reducible apply GO2.drew | with_reducible apply GO2.alloc)) hK4 (by omega) (by omega); have hs4 := hK4.size; simp only [World.size_drew] at hs4; replace hR := hR4; clear hK4 hR4 o; have o := hF.own; simp only [World.size_alloc, World.size_drew, World.size_setCell, List.mem_cons, List.not_mem_nil, or_false, forall_eq_or_imp, forall_eq, At, and_true, Nat.zero_add, Nat.reduceAdd, List.set_cons_zero, List.set_cons_succ] at o)
          (try go_wp2_with fail)
          refine hK.out _ _ ?hs (fun hHeld => ?_)
          case hs => exact trivial
          clear hK KK
          (try simp only [Act.put, List.setIfInBounds_toArray, List.set_cons_zero, List.set_cons_succ])
          refine wpAnyH_take (i := 3) (oi := _) (v := ?_) (by simp only [List.getElem?_toArray, List.getElem?_cons_succ, List.getElem?_cons_zero]; rfl) (by kernel_rfl) (by kernel_rfl) (by kernel_rfl) (by exact fun _ _ _ h => h) (Or.inl ⟨by rfl, ?hy⟩) (by assumption) ?_
          case hy => (intro w hSw; (try dsimp only at hSw); go_simp; (try with_reducible rfl))
          (try simp only [Act.put, List.setIfInBounds_toArray, List.set_cons_zero, List.set_cons_succ])
          refine wpAnyH_ready (rs := [0]) (by kernel_rfl) (by simp) ?_
          refine AllReadyH.cons (o := _) (by simp only [List.getElem?_toArray, List.getElem?_cons_succ, List.getElem?_cons_zero]; rfl) (fun KK hK => ?_) AllReadyH.nil
          go_simp
          refine hK.out _ _ ?hs (fun hHeld => ?_)
          case hs => exact trivial
          clear hK KK
          (try simp only [Act.put, List.setIfInBounds_toArray, List.set_cons_zero, List.set_cons_succ])
          refine wpAnyH_ready (rs := [4]) (by kernel_rfl) (by simp) ?_
          refine AllReadyH.cons (o := _) (by simp only [List.getElem?_toArray, List.getElem?_cons_succ, List.getElem?_cons_zero]; rfl) (fun KK hK => ?_) AllReadyH.nil
          go_simp
          (go_at_call 95; go_must (refine (RibDown_any H up _ _ K _ (GO2.gls (by repeat (first | with_reducible exact hO | with_reducible apply GO2.drew | with_reducible apply GO2.alloc))) HKs.out).mono ?_); rintro e w7 ⟨H7, up7, u7, K7, rfl, hR7⟩; obtain ⟨hO7, hl7, hs7, hb7⟩ := hR7; obtain ⟨a7, c7, rfl⟩ := hO7.sl; have hv7 := fun e => (by have := hO7.ge n2 e; (try simp only [World.size_drew] at this); omega : False); replace hR := Rd.below (by repeat (first | assumption | apply Rd.alloc | apply Rd.drew | apply Rd.drewN | (refine Rd.setCell ?_ (by dsimp only; omega) _) | apply Rd.setCell | ((try dsimp only); omega))) hb7 (by have := hR.lt; (try simp only [World.size_drew]); omega); replace hF := Fr.below (by repeat (first | assumption | apply Fr.drew | apply Fr.drewN | apply Fr.alloc_1 | apply Fr.alloc_2 | apply Fr.alloc_3 | apply Fr.alloc_4 | apply Fr.alloc_5 | apply Fr.alloc_8 | apply Fr.set | (simp only [List.length_cons, List.length_nil, List.length_set]; omega) | (simp only [List.mem_cons, List.not_mem_nil, or_false, forall_eq_or_imp, forall_eq, ne_eq]; omega) | (simp only [World.size_alloc, World.size_setCell, World.size_drew]; omega) | omega)) hb7; have hz7 := hb7.size; (try simp only [World.size_drew] at hz7); replace hO7 := hO7.go2R (n1 + 1) (n2 + 1) (by (try simp only [World.size_drew]); omega) (by (try simp only [World.size_drew]); omega); clear hb7 o; have o := hF.own; simp only [World.size_alloc, World.size_drew, World.size_setCell, List.mem_cons, List.not_mem_nil, or_false, forall_eq_or_imp, forall_eq, At, and_true, Nat.zero_add, Nat.reduceAdd, List.set_cons_zero, List.set_cons_succ] at o)
          (try go_wp2_with fail)
          refine hK.out _ _ ?hs (fun hHeld => ?_)
          case hs => exact trivial
          clear hK KK
          (try simp only [Act.put, List.setIfInBounds_toArray, List.set_cons_zero, List.set_cons_succ])
          refine wpAnyH_ready (rs := [5]) (by kernel_rfl) (by simp) ?_
          refine AllReadyH.cons (o := _) (by simp only [List.getElem?_toArray, List.getElem?_cons_succ, List.getElem?_cons_zero]; rfl) (fun KK hK => ?_) AllReadyH.nil
          go_simp
          obtain ⟨wz, hwz, hF2, hR2, hO2, hszz⟩ := put3r hF (by simp <;> omega) hR (by omega) hO7 hv7 (by omega) (.int .i64 H7) (.bool up7) (.slice a7 K7.length c7)
          rw [← hwz]
          clear hwz o hF hR hO7
          refine hK.out _ _ ?hs (fun hHeld => ?_)
          case hs => exact trivial
          clear hK KK
          (try simp only [Act.put, List.setIfInBounds_toArray, List.set_cons_zero, List.set_cons_succ])
          refine wpAnyH_done (by kernel_rfl) ?_ _
          go_wp2_with fail
          go_roundw
          case rel => exact ⟨m', (k' + 1 + 1), by omega, by go_num, by omega, H7, up7, _, K7, hl7, hs7, hv7, by rw [hszz]; omega, hO2, hR2, hF2⟩
          case measure => simp [intOf]; omega
      · by_cases h1 : v3 = 1
        · subst h1
          go_wp2_with fail
          refine (RibUp_any H up _ K _ hO.gls HKs.out).mono ?_; rintro e w7 ⟨H7, up7, u7, K7, rfl, hR7⟩
          obtain ⟨hO7, hl7, hs7, hb7⟩ := hR7
          obtain ⟨a7, c7, rfl⟩ := hO7.sl
          have hv7 := fun e => (by have := hO7.ge n2 e; omega : False)
          replace hR := hR.below hb7 (by have := hR.lt; omega)
          replace hF := hF.below hb7
          have hz7 := hb7.size
          replace hO7 := hO7.go2R (n1 + 1) (n2 + 1) (by omega) (by omega)
          clear hb7 o
          have o := hF.own; simp only [World.size_alloc, World.size_drew, World.size_setCell, List.mem_cons, List.not_mem_nil, or_false, forall_eq_or_imp, forall_eq, At, and_true, Nat.zero_add, Nat.reduceAdd, List.set_cons_zero, List.set_cons_succ] at o
          go_wp2_with fail
          obtain ⟨wz, hwz, hF2, hR2, hO2, hszz⟩ := put3r hF (by simp <;> omega) hR (by omega) hO7 hv7 (by omega) (.int .i64 H7) (.bool up7) (.slice a7 K7.length c7)
          rw [← hwz]
          clear hwz o hF hR hO7
          go_wp2_with fail
          go_roundw
          case rel => exact ⟨m', (k' + 1), by omega, by go_num, by omega, H7, up7, _, K7, hl7, hs7, hv7, by rw [hszz]; omega, hO2, hR2, hF2⟩
          case measure => simp [intOf]; omega
        · by_cases h2 : v3 = 2
          · subst h2
            go_wp2_with fail
            refine (RibEnd_any H up _ K _ hO.gls HKs.out).mono ?_; rintro e w7 ⟨H7, up7, u7, K7, rfl, hR7⟩
            obtain ⟨hO7, hl7, hs7, hb7⟩ := hR7
            obtain ⟨a7, c7, rfl⟩ := hO7.sl
            have hv7 := fun e => (by have := hO7.ge n2 e; omega : False)
            replace hR := hR.below hb7 (by have := hR.lt; omega)
            replace hF := hF.below hb7
            have hz7 := hb7.size
            replace hO7 := hO7.go2R (n1 + 1) (n2 + 1) (by omega) (by omega)
            clear hb7 o
            have o := hF.own; simp only [World.size_alloc, World.size_drew, World.size_setCell, List.mem_cons, List.not_mem_nil, or_false, forall_eq_or_imp, forall_eq, At, and_true, Nat.zero_add, Nat.reduceAdd, List.set_cons_zero, List.set_cons_succ] at o
            go_wp2_with fail
            obtain ⟨wz, hwz, hF2, hR2, hO2, hszz⟩ := put3r hF (by simp <;> omega) hR (by omega) hO7 hv7 (by omega) (.int .i64 H7) (.bool up7) (.slice a7 K7.length c7)
            rw [← hwz]
            clear hwz o hF hR hO7
            go_wp2_with fail
            go_roundw
            case rel => exact ⟨m', (k' + 1), by omega, by go_num, by omega, H7, up7, _, K7, hl7, hs7, hv7, by rw [hszz]; omega, hO2, hR2, hF2⟩
            case measure => simp [intOf]; omega
          · have d0 : (v3 == 0) = false := by simp [h0]
            have d1 : (v3 == 1) = false := by simp [h1]
            have d2 : (v3 == 2) = false := by simp [h2]
            go_upto_region 6 with (fail)
            have hO4 := hO.go4
            have hU : Hid (w3.heap.size ≤ w3.heap.size) := Nat.le_refl _
            obtain ⟨U4, hU4⟩ : ∃ U4, w3.heap.size = U4 := ⟨_, rfl⟩
            rw [hU4] at hO4
            have hU5 : U4 ≤ w3.heap.size := by omega
            have hU6 : n2 < U4 := by omega
            clear hO hU hU4
            go_cut [7, 8] (fun s7 s8 wx => ∃ (n7 k9 : Nat) (H7 : Int) (up7 bo : Bool) (u7 : Value) (K7 : List Gt), s7 = .pointer (some ⟨n7, 0, none⟩) ∧ s8 = .bool bo ∧ n2 < n7 ∧ n7 < wx.heap.size ∧ k9 ≤ k' + 101 ∧ K7.length ≤ 6 ∧ Hid (∀ s ∈ K7, SmG s) ∧ U4 ≤ wx.heap.size ∧ u7.ownBlock ≠ some n2 ∧ GO2 shGt 48 wx (n1 + 1) (n2 + 1) u7 K7 ∧ GO4 shGt 48 wx (n1 + 1) (n2 + 1) U4 (.slice au nk cu) K ∧ Rd wx r k9 ∧ Fr r w wx [(n7, [.int .i64 H7, .bool up7, u7]), (n2, [.int .i64 H, .bool up, .slice au nk cu]), (n1, [.int .i64 0, .bool false, .slice none 0 0])])
            case first =>
              refine wp_region_held_drew (S := fun w' => w'.cell? ⟨n2, 0, none⟩ = some (.int .i64 H) ∧ w'.cell? ⟨n2, 1, none⟩ = some (.bool up) ∧ w'.cell? ⟨n2, 2, none⟩ = some (.slice au nk cu)) (by kernel_rfl) ?hs (fun hHeld => ?_)
              case hs => exact Fr.c30 hF.drew
              refine wpAnyH_take (i := 0) (oi := _) (v := ?_) (by simp only [List.getElem?_toArray, List.getElem?_cons_succ, List.getElem?_cons_zero]; rfl) (by kernel_rfl) (by kernel_rfl) (by kernel_rfl) (by exact fun _ _ _ h => h) (Or.inl ⟨by rfl, ?hy⟩) (by assumption) ?_
              case hy => (intro w hSw; (try dsimp only at hSw); go_simp; (try with_reducible rfl))
              (try simp only [Act.put, List.setIfInBounds_toArray, List.set_cons_zero, List.set_cons_succ])
              refine wpAnyH_take (i := 1) (oi := _) (v := ?_) (by simp only [List.getElem?_toArray, List.getElem?_cons_succ, List.getElem?_cons_zero]; rfl) (by kernel_rfl) (by kernel_rfl) (by kernel_rfl) (by exact fun _ _ _ h => h) (Or.inl ⟨by rfl, ?hy⟩) (by assumption) ?_
              case hy => (intro w hSw; (try dsimp only at hSw); go_simp; (try with_reducible rfl))
              (try simp only [Act.put, List.setIfInBounds_toArray, List.set_cons_zero, List.set_cons_succ])
              refine wpAnyH_take (i := 2) (oi := _) (v := ?_) (by simp only [List.getElem?_toArray, List.getElem?_cons_succ, List.getElem?_cons_zero]; rfl) (by kernel_rfl) (by kernel_rfl) (by kernel_rfl) (by exact fun _ _ _ h => h) (Or.inl ⟨by rfl, ?hy⟩) (by assumption) ?_
              case hy => (intro w hSw; (try dsimp only at hSw); go_simp; (try with_reducible rfl))
              (try simp only [Act.put, List.setIfInBounds_toArray, List.set_cons_zero, List.set_cons_succ])
              refine wpAnyH_ready (rs := [3, 8]) (by kernel_rfl) (by simp) ?_
              refine AllReadyH.cons (o := _) (by simp only [List.getElem?_toArray, List.getElem?_cons_succ, List.getElem?_cons_zero]; rfl) (fun KK hK => ?_) (AllReadyH.cons (o := _) (by simp only [List.getElem?_toArray, List.getElem?_cons_succ, List.getElem?_cons_zero]; rfl) (fun KK hK => ?_) AllReadyH.nil)
              ·
                go_simp
                (go_at_call 60; go_must (refine (l92From_any r _ h _ (by repeat (first | assumption | apply Rd.alloc | apply Rd.drew | apply Rd.drewN | (refine Rd.setCell ?_ (by dsimp only; omega) _) | apply Rd.setCell | ((try dsimp only); omega))) (by omega) hh).mono ?_); rintro e w5 ⟨f, b, lk, pv, mv, P, M, rfl, hP, hM, hP4, hM9, -, -, ⟨k9, hk9, hR9⟩, hK9⟩; replace hF := Fr.call (by repeat (first | assumption | apply Fr.drew | apply Fr.drewN | apply Fr.alloc_1 | apply Fr.alloc_2 | apply Fr.alloc_3 | apply Fr.alloc_4 | apply Fr.alloc_5 | apply Fr.alloc_8 | apply Fr.set | (simp only [List.length_cons, List.length_nil, List.length_set]; omega) | (simp only [List.mem_cons, List.not_mem_nil, or_false, forall_eq_or_imp, forall_eq, ne_eq]; omega) | (simp only [World.size_alloc, World.size_setCell, World.size_drew]; omega) | omega)) hK9; replace hO4 := GO4.kp (by repeat (first | with_reducible exact hO4 | with_reducible apply GO4.drew | with_reducible apply GO4.alloc)) hK9 (by omega) (by omega); have hs9 := hK9.size; (try simp only [World.size_drew, World.size_alloc] at hs9); replace hR := hR9; obtain ⟨o1, p1, rfl, -⟩ := hP.1.1.ex; obtain ⟨o2, m1, rfl, -⟩ := hM.1.1.ex; have HPM := Lib.hid (And.intro hP.1 hM.1); clear hK9 hR9 hP hM o; have o := hF.own; simp only [World.size_alloc, World.size_drew, World.size_setCell, List.mem_cons, List.not_mem_nil, or_false, forall_eq_or_imp, forall_eq, At, and_true, Nat.zero_add, Nat.reduceAdd, List.set_cons_zero, List.set_cons_succ] at o)
                (try go_wp2_with fail)
                refine hK.out _ _ ?hs (fun hHeld => ?_)
                case hs => ((try dsimp only); first | exact Fr.c30 (by repeat (first | with_reducible exact hF | with_reducible apply Fr.drew | with_reducible apply Fr.drewN)) | exact Fr.c31 (by repeat (first | with_reducible exact hF | with_reducible apply Fr.drew | with_reducible apply Fr.drewN)) | exact Fr.c31 (by repeat (first | assumption | apply Fr.drew | apply Fr.drewN | apply Fr.alloc_1 | apply Fr.alloc_2 | apply Fr.alloc_3 | apply Fr.alloc_4 | apply Fr.alloc_5 | apply Fr.alloc_8 | apply Fr.set | (simp only [List.length_cons, List.length_nil, List.length_set]; omega) | (simp only [List.mem_cons, List.not_mem_nil, or_false, forall_eq_or_imp, forall_eq, ne_eq]; omega) | (simp only [World.size_alloc, World.size_setCell, World.size_drew]; omega) | omega)))
                clear hK KK
                (try simp only [Act.put, List.setIfInBounds_toArray, List.set_cons_zero, List.set_cons_succ])
                refine wpAnyH_ready (rs := [4, 8]) (by kernel_rfl) (by simp) ?_
                refine AllReadyH.cons (o := _) (by simp only [List.getElem?_toArray, List.getElem?_cons_succ, List.getElem?_cons_zero]; rfl) (fun KK hK => ?_) (AllReadyH.cons (o := _) (by simp only [List.getElem?_toArray, List.getElem?_cons_succ, List.getElem?_cons_zero]; rfl) (fun KK hK => ?_) AllReadyH.nil)
                ·
                  go_simp
                  (go_at_call 98; go_must (refine (RibTell_any H up _ K f b lk _ _ P M _ (GO4.gls (by repeat (first | with_reducible exact hO4 | with_reducible apply GO4.drew | with_reducible apply GO4.alloc))) HKs.out HPM.out.1 HPM.out.2 ⟨by have := hP4.1; omega, by omega⟩).mono ?_); rintro e w7 ⟨H7, up7, bo, u7, K7, rfl, hR7⟩; obtain ⟨hO7, hl7, hs7, hb7⟩ := hR7; obtain ⟨a7, c7, rfl⟩ := hO7.sl; obtain ⟨n9, hn9⟩ : ∃ n9, Hid (K7.length = n9) := ⟨_, rfl⟩; rw [hn9.out] at hO7 ⊢; replace hO7 := hO7.go2.go4; (try simp only [World.size_alloc] at hO7); replace hR := Rd.below (by repeat (first | assumption | apply Rd.alloc | apply Rd.drew | apply Rd.drewN | (refine Rd.setCell ?_ (by dsimp only; omega) _) | apply Rd.setCell | ((try dsimp only); omega))) hb7 (by have := hR.lt; (try simp only [World.size_alloc]); omega); replace hF := Fr.below (by repeat (first | assumption | apply Fr.drew | apply Fr.drewN | apply Fr.alloc_1 | apply Fr.alloc_2 | apply Fr.alloc_3 | apply Fr.alloc_4 | apply Fr.alloc_5 | apply Fr.alloc_8 | apply Fr.set | (simp only [List.length_cons, List.length_nil, List.length_set]; omega) | (simp only [List.mem_cons, List.not_mem_nil, or_false, forall_eq_or_imp, forall_eq, ne_eq]; omega) | (simp only [World.size_alloc, World.size_setCell, World.size_drew]; omega) | omega)) hb7; replace hO4 := GO4.below (by repeat (first | with_reducible exact hO4 | with_reducible apply GO4.drew | with_reducible apply GO4.alloc)) hb7; have hz7 := hb7.size; (try simp only [World.size_alloc] at hz7); have HS7 := Lib.hid hs7; clear hb7 hs7 o; have o := hF.own; simp only [World.size_alloc, World.size_drew, World.size_setCell, List.mem_cons, List.not_mem_nil, or_false, forall_eq_or_imp, forall_eq, At, and_true, Nat.zero_add, Nat.reduceAdd, List.set_cons_zero, List.set_cons_succ] at o)
                  (try go_wp2_with fail)
                  refine hK.out _ _ ?hs (fun hHeld => ?_)
                  case hs => ((try dsimp only); first | exact Fr.c30 (by repeat (first | with_reducible exact hF | with_reducible apply Fr.drew | with_reducible apply Fr.drewN)) | exact Fr.c31 (by repeat (first | with_reducible exact hF | with_reducible apply Fr.drew | with_reducible apply Fr.drewN)) | exact Fr.c31 (by repeat (first | assumption | apply Fr.drew | apply Fr.drewN | apply Fr.alloc_1 | apply Fr.alloc_2 | apply Fr.alloc_3 | apply Fr.alloc_4 | apply Fr.alloc_5 | apply Fr.alloc_8 | apply Fr.set | (simp only [List.length_cons, List.length_nil, List.length_set]; omega) | (simp only [List.mem_cons, List.not_mem_nil, or_false, forall_eq_or_imp, forall_eq, ne_eq]; omega) | (simp only [World.size_alloc, World.size_setCell, World.size_drew]; omega) | omega)))
                  clear hK KK
                  (try simp only [Act.put, List.setIfInBounds_toArray, List.set_cons_zero, List.set_cons_succ])
                  refine wpAnyH_take (i := 5) (oi := _) (v := ?_) (by simp only [List.getElem?_toArray, List.getElem?_cons_succ, List.getElem?_cons_zero]; rfl) (by kernel_rfl) (by kernel_rfl) (by kernel_rfl) (by exact fun _ _ _ h => h) (Or.inl ⟨by rfl, ?hy⟩) (by assumption) ?_
                  case hy => (intro w hSw; (try dsimp only at hSw); go_simp; (try with_reducible rfl))
                  (try simp only [Act.put, List.setIfInBounds_toArray, List.set_cons_zero, List.set_cons_succ])
                  refine wpAnyH_take (i := 6) (oi := _) (v := ?_) (by simp only [List.getElem?_toArray, List.getElem?_cons_succ, List.getElem?_cons_zero]; rfl) (by kernel_rfl) (by kernel_rfl) (by kernel_rfl) (by exact fun _ _ _ h => h) (Or.inl ⟨by rfl, ?hy⟩) (by assumption) ?_
                  case hy => (intro w hSw; (try dsimp only at hSw); go_simp; (try with_reducible rfl))
                  (try simp only [Act.put, List.setIfInBounds_toArray, List.set_cons_zero, List.set_cons_succ])
                  refine wpAnyH_take (i := 7) (oi := _) (v := ?_) (by simp only [List.getElem?_toArray, List.getElem?_cons_succ, List.getElem?_cons_zero]; rfl) (by kernel_rfl) (by kernel_rfl) (by kernel_rfl) (by exact fun _ _ _ h => h) (Or.inl ⟨by rfl, ?hy⟩) (by assumption) ?_
                  case hy => (intro w hSw; (try dsimp only at hSw); go_simp; (try with_reducible rfl))
                  (try simp only [Act.put, List.setIfInBounds_toArray, List.set_cons_zero, List.set_cons_succ])
                  refine wpAnyH_ready (rs := [8]) (by kernel_rfl) (by simp) ?_
                  refine AllReadyH.cons (o := _) (by simp only [List.getElem?_toArray, List.getElem?_cons_succ, List.getElem?_cons_zero]; rfl) (fun KK hK => ?_) AllReadyH.nil
                  go_simp
                  have hFa : Fr r w (w7.alloc (.cells #[.int .i64 0, .bool false, .slice none 0 0] 44)) [(w7.heap.size, [.int .i64 0, .bool false, .slice none 0 0]), (n2, [.int .i64 H, .bool up, .slice au nk cu]), (n1, [.int .i64 0, .bool false, .slice none 0 0])] := Fr.alloc (by repeat (first | with_reducible exact hF | with_reducible apply Fr.drew | with_reducible apply Fr.drewN)) _ _ (by have := hR.lt; (try simp only [World.size_drew]); omega)
                  have hF0 := hF
                  have hR0 := hR
                  have hO40 := hO4
                  have hO70 := hO7
                  clear o
                  replace hF := hFa
                  clear hFa
                  refine hK.out _ _ ?hs (fun hHeld => ?_)
                  case hs => ((try dsimp only); first | exact Fr.c30 (by repeat (first | with_reducible exact hF | with_reducible apply Fr.drew | with_reducible apply Fr.drewN)) | exact Fr.c31 (by repeat (first | with_reducible exact hF | with_reducible apply Fr.drew | with_reducible apply Fr.drewN)) | exact Fr.c31 (by repeat (first | assumption | apply Fr.drew | apply Fr.drewN | apply Fr.alloc_1 | apply Fr.alloc_2 | apply Fr.alloc_3 | apply Fr.alloc_4 | apply Fr.alloc_5 | apply Fr.alloc_8 | apply Fr.set | (simp only [List.length_cons, List.length_nil, List.length_set]; omega) | (simp only [List.mem_cons, List.not_mem_nil, or_false, forall_eq_or_imp, forall_eq, ne_eq]; omega) | (simp only [World.size_alloc, World.size_setCell, World.size_drew]; omega) | omega)))
                  clear hK KK
                  (try simp only [Act.put, List.setIfInBounds_toArray, List.set_cons_zero, List.set_cons_succ])
                  have o := hF.own; simp only [World.size_alloc, World.size_drew, World.size_setCell, List.mem_cons, List.not_mem_nil, or_false, forall_eq_or_imp, forall_eq, At, and_true, Nat.zero_add, Nat.reduceAdd, List.set_cons_zero, List.set_cons_succ] at o
                  refine wpAnyH_ready (rs := [9]) (by kernel_rfl) (by simp) ?_
                  refine AllReadyH.cons (o := _) (by simp only [List.getElem?_toArray, List.getElem?_cons_succ, List.getElem?_cons_zero]; rfl) (fun KK hK => ?_) AllReadyH.nil
                  go_simp
                  clear o hF hR hO4 hO7
                  have hF := hF0
                  have hR := hR0
                  have hFa : Fr r w (w7.alloc (.cells #[.int .i64 H7, .bool up7, .slice a7 n9 c7] 44)) [(w7.heap.size, [.int .i64 H7, .bool up7, .slice a7 n9 c7]), (n2, [.int .i64 H, .bool up, .slice au nk cu]), (n1, [.int .i64 0, .bool false, .slice none 0 0])] := Fr.alloc (by repeat (first | with_reducible exact hF | with_reducible apply Fr.drew | with_reducible apply Fr.drewN)) _ _ (by have := hR.lt; (try simp only [World.size_drew]); omega)
                  clear hF
                  have hF := hFa
                  refine hK.out _ _ ?hs (fun hHeld => ?_)
                  case hs => ((try dsimp only); first | exact Fr.c30 (by repeat (first | with_reducible exact hF | with_reducible apply Fr.drew | with_reducible apply Fr.drewN)) | exact Fr.c31 (by repeat (first | with_reducible exact hF | with_reducible apply Fr.drew | with_reducible apply Fr.drewN)) | exact Fr.c31 (by repeat (first | assumption | apply Fr.drew | apply Fr.drewN | apply Fr.alloc_1 | apply Fr.alloc_2 | apply Fr.alloc_3 | apply Fr.alloc_4 | apply Fr.alloc_5 | apply Fr.alloc_8 | apply Fr.set | (simp only [List.length_cons, List.length_nil, List.length_set]; omega) | (simp only [List.mem_cons, List.not_mem_nil, or_false, forall_eq_or_imp, forall_eq, ne_eq]; omega) | (simp only [World.size_alloc, World.size_setCell, World.size_drew]; omega) | omega)))
                  clear hK KK
                  (try simp only [Act.put, List.setIfInBounds_toArray, List.set_cons_zero, List.set_cons_succ])
                  refine wpAnyH_take (i := 10) (oi := _) (v := ?_) (by simp only [List.getElem?_toArray, List.getElem?_cons_succ, List.getElem?_cons_zero]; rfl) (by kernel_rfl) (by kernel_rfl) (by kernel_rfl) (by exact fun _ _ _ h => h) (Or.inl ⟨by rfl, ?hy⟩) (by assumption) ?_
                  case hy => (intro w hSw; (try dsimp only at hSw); go_simp; (try with_reducible rfl))
                  (try simp only [Act.put, List.setIfInBounds_toArray, List.set_cons_zero, List.set_cons_succ])
                  refine wpAnyH_done (by kernel_rfl) ?_ _
                  have hv7 := fun e => (by have := hO70.ge n2 e; omega : False)
                  go_wp2_with fail
                  go_meet
                  case rel => exact ⟨w7.heap.size, k9, H7, up7, bo, _, K7, rfl, rfl, by omega, by simp only [World.size_alloc]; omega, by omega, hl7, HS7, by simp only [World.size_alloc]; omega, hv7, (hO70.alloc _).go2 (by simp only [World.size_alloc]; omega) _ _ (by omega) (by omega), hO40.alloc _, hR0.alloc _, hF⟩
                ·
                  go_simp
                  have hFa : Fr r w (w5.alloc (.cells #[.int .i64 0, .bool false, .slice none 0 0] 44)) [(w5.heap.size, [.int .i64 0, .bool false, .slice none 0 0]), (n2, [.int .i64 H, .bool up, .slice au nk cu]), (n1, [.int .i64 0, .bool false, .slice none 0 0])] := Fr.alloc (by repeat (first | with_reducible exact hF | with_reducible apply Fr.drew | with_reducible apply Fr.drewN)) _ _ (by have := hR.lt; (try simp only [World.size_drew]); omega)
                  clear o
                  replace hF := hFa
                  clear hFa
                  replace hR := Rd.alloc (by repeat (first | assumption | apply Rd.alloc | apply Rd.drew | apply Rd.drewN | (refine Rd.setCell ?_ (by dsimp only; omega) _) | apply Rd.setCell | ((try dsimp only); omega))) (.cells #[.int .i64 0, .bool false, .slice none 0 0] 44)
                  replace hO4 := GO4.alloc (by repeat (first | with_reducible exact hO4 | with_reducible apply GO4.drew | with_reducible apply GO4.alloc)) (.cells #[.int .i64 0, .bool false, .slice none 0 0] 44)
                  obtain ⟨n7, hn7⟩ : ∃ n7, w5.heap.size = n7 := ⟨_, rfl⟩
                  (try simp only [World.size_drew] at hF)
                  rw [hn7] at hF ⊢
                  have h7a : n7 ≤ w5.heap.size := by omega
                  have h7b : w5.heap.size ≤ n7 := by omega
                  clear hn7
                  have o := hF.own; simp only [World.size_alloc, World.size_drew, World.size_setCell, List.mem_cons, List.not_mem_nil, or_false, forall_eq_or_imp, forall_eq, At, and_true, Nat.zero_add, Nat.reduceAdd, List.set_cons_zero, List.set_cons_succ] at o
                  refine hK.out _ _ ?hs (fun hHeld => ?_)
                  case hs => ((try dsimp only); first | exact Fr.c30 (by repeat (first | with_reducible exact hF | with_reducible apply Fr.drew | with_reducible apply Fr.drewN)) | exact Fr.c31 (by repeat (first | with_reducible exact hF | with_reducible apply Fr.drew | with_reducible apply Fr.drewN)) | exact Fr.c31 (by repeat (first | assumption | apply Fr.drew | apply Fr.drewN | apply Fr.alloc_1 | apply Fr.alloc_2 | apply Fr.alloc_3 | apply Fr.alloc_4 | apply Fr.alloc_5 | apply Fr.alloc_8 | apply Fr.set | (simp only [List.length_cons, List.length_nil, List.length_set]; omega) | (simp only [List.mem_cons, List.not_mem_nil, or_false, forall_eq_or_imp, forall_eq, ne_eq]; omega) | (simp only [World.size_alloc, World.size_setCell, World.size_drew]; omega) | omega)))
                  clear hK KK
                  (try simp only [Act.put, List.setIfInBounds_toArray, List.set_cons_zero, List.set_cons_succ])
                  refine wpAnyH_ready (rs := [4]) (by kernel_rfl) (by simp) ?_
                  refine AllReadyH.cons (o := _) (by simp only [List.getElem?_toArray, List.getElem?_cons_succ, List.getElem?_cons_zero]; rfl) (fun KK hK => ?_) AllReadyH.nil
                  go_simp
                  (go_at_call 98; go_must (refine (RibTell_any H up _ K f b lk _ _ P M _ (GO4.gls (by repeat (first | with_reducible exact hO4 | with_reducible apply GO4.drew | with_reducible apply GO4.alloc))) HKs.out (It.allocd HPM.out.1 _) (It.allocd HPM.out.2 _) ⟨by have := hP4.1; omega, by omega⟩).mono ?_); rintro e w7 ⟨H7, up7, bo, u7, K7, rfl, hR7⟩; obtain ⟨hO7, hl7, hs7, hb7⟩ := hR7; obtain ⟨a7, c7, rfl⟩ := hO7.sl; obtain ⟨n9, hn9⟩ : ∃ n9, Hid (K7.length = n9) := ⟨_, rfl⟩; rw [hn9.out] at hO7 ⊢; replace hO7 := hO7.go2.go4; (try simp only [World.size_alloc] at hO7); replace hR := Rd.below (by repeat (first | assumption | apply Rd.alloc | apply Rd.drew | apply Rd.drewN | (refine Rd.setCell ?_ (by dsimp only; omega) _) | apply Rd.setCell | ((try dsimp only); omega))) hb7 (by have := hR.lt; (try simp only [World.size_alloc]); omega); replace hF := Fr.below (by repeat (first | assumption | apply Fr.drew | apply Fr.drewN | apply Fr.alloc_1 | apply Fr.alloc_2 | apply Fr.alloc_3 | apply Fr.alloc_4 | apply Fr.alloc_5 | apply Fr.alloc_8 | apply Fr.set | (simp only [List.length_cons, List.length_nil, List.length_set]; omega) | (simp only [List.mem_cons, List.not_mem_nil, or_false, forall_eq_or_imp, forall_eq, ne_eq]; omega) | (simp only [World.size_alloc, World.size_setCell, World.size_drew]; omega) | omega)) hb7; replace hO4 := GO4.below (by repeat (first | with_reducible exact hO4 | with_reducible apply GO4.drew | with_reducible apply GO4.alloc)) hb7; have hz7 := hb7.size; (try simp only [World.size_alloc] at hz7); have HS7 := Lib.hid hs7; clear hb7 hs7 o; have o := hF.own; simp only [World.size_alloc, World.size_drew, World.size_setCell, List.mem_cons, List.not_mem_nil, or_false, forall_eq_or_imp, forall_eq, At, and_true, Nat.zero_add, Nat.reduceAdd, List.set_cons_zero, List.set_cons_succ] at o)
                  (try go_wp2_with fail)
                  refine hK.out _ _ ?hs (fun hHeld => ?_)
                  case hs => ((try dsimp only); first | exact Fr.c30 (by repeat (first | with_reducible exact hF | with_reducible apply Fr.drew | with_reducible apply Fr.drewN)) | exact Fr.c31 (by repeat (first | with_reducible exact hF | with_reducible apply Fr.drew | with_reducible apply Fr.drewN)) | exact Fr.c31 (by repeat (first | assumption | apply Fr.drew | apply Fr.drewN | apply Fr.alloc_1 | apply Fr.alloc_2 | apply Fr.alloc_3 | apply Fr.alloc_4 | apply Fr.alloc_5 | apply Fr.alloc_8 | apply Fr.set | (simp only [List.length_cons, List.length_nil, List.length_set]; omega) | (simp only [List.mem_cons, List.not_mem_nil, or_false, forall_eq_or_imp, forall_eq, ne_eq]; omega) | (simp only [World.size_alloc, World.size_setCell, World.size_drew]; omega) | omega)))
                  clear hK KK
                  (try simp only [Act.put, List.setIfInBounds_toArray, List.set_cons_zero, List.set_cons_succ])
                  refine wpAnyH_take (i := 5) (oi := _) (v := ?_) (by simp only [List.getElem?_toArray, List.getElem?_cons_succ, List.getElem?_cons_zero]; rfl) (by kernel_rfl) (by kernel_rfl) (by kernel_rfl) (by exact fun _ _ _ h => h) (Or.inl ⟨by rfl, ?hy⟩) (by assumption) ?_
                  case hy => (intro w hSw; (try dsimp only at hSw); go_simp; (try with_reducible rfl))
                  (try simp only [Act.put, List.setIfInBounds_toArray, List.set_cons_zero, List.set_cons_succ])
                  refine wpAnyH_take (i := 6) (oi := _) (v := ?_) (by simp only [List.getElem?_toArray, List.getElem?_cons_succ, List.getElem?_cons_zero]; rfl) (by kernel_rfl) (by kernel_rfl) (by kernel_rfl) (by exact fun _ _ _ h => h) (Or.inl ⟨by rfl, ?hy⟩) (by assumption) ?_
                  case hy => (intro w hSw; (try dsimp only at hSw); go_simp; (try with_reducible rfl))
                  (try simp only [Act.put, List.setIfInBounds_toArray, List.set_cons_zero, List.set_cons_succ])
                  refine wpAnyH_take (i := 7) (oi := _) (v := ?_) (by simp only [List.getElem?_toArray, List.getElem?_cons_succ, List.getElem?_cons_zero]; rfl) (by kernel_rfl) (by kernel_rfl) (by kernel_rfl) (by exact fun _ _ _ h => h) (Or.inl ⟨by rfl, ?hy⟩) (by assumption) ?_
                  case hy => (intro w hSw; (try dsimp only at hSw); go_simp; (try with_reducible rfl))
                  (try simp only [Act.put, List.setIfInBounds_toArray, List.set_cons_zero, List.set_cons_succ])
                  refine wpAnyH_ready (rs := [9]) (by kernel_rfl) (by simp) ?_
                  refine AllReadyH.cons (o := _) (by simp only [List.getElem?_toArray, List.getElem?_cons_succ, List.getElem?_cons_zero]; rfl) (fun KK hK => ?_) AllReadyH.nil
                  go_simp
                  obtain ⟨wz, hwz, hF2, hsz9, hRk, hOk⟩ := put3q hF (by simp <;> omega) (.int .i64 H7) (.bool up7) (.slice a7 n9 c7)
                  rw [← hwz]
                  clear hwz o
                  have hRz := hRk _ (by omega) hR
                  have hOz := hOk _ _ _ _ _ _ _ (Or.inr (by omega)) hO4
                  have hOy := hOk _ _ _ _ _ _ _ (Or.inl (by omega)) hO7
                  have hv7 := fun e => (by have := hO7.ge n2 e; omega : False)
                  replace hF := hF2
                  clear hF2 hRk hOk hR hO4 hO7
                  refine hK.out _ _ ?hs (fun hHeld => ?_)
                  case hs => ((try dsimp only); first | exact Fr.c30 (by repeat (first | with_reducible exact hF | with_reducible apply Fr.drew | with_reducible apply Fr.drewN)) | exact Fr.c31 (by repeat (first | with_reducible exact hF | with_reducible apply Fr.drew | with_reducible apply Fr.drewN)) | exact Fr.c31 (by repeat (first | assumption | apply Fr.drew | apply Fr.drewN | apply Fr.alloc_1 | apply Fr.alloc_2 | apply Fr.alloc_3 | apply Fr.alloc_4 | apply Fr.alloc_5 | apply Fr.alloc_8 | apply Fr.set | (simp only [List.length_cons, List.length_nil, List.length_set]; omega) | (simp only [List.mem_cons, List.not_mem_nil, or_false, forall_eq_or_imp, forall_eq, ne_eq]; omega) | (simp only [World.size_alloc, World.size_setCell, World.size_drew]; omega) | omega)))
                  clear hK KK
                  (try simp only [Act.put, List.setIfInBounds_toArray, List.set_cons_zero, List.set_cons_succ])
                  refine wpAnyH_take (i := 10) (oi := _) (v := ?_) (by simp only [List.getElem?_toArray, List.getElem?_cons_succ, List.getElem?_cons_zero]; rfl) (by kernel_rfl) (by kernel_rfl) (by kernel_rfl) (by exact fun _ _ _ h => h) (Or.inl ⟨by rfl, ?hy⟩) (by assumption) ?_
                  case hy => (intro w hSw; (try dsimp only at hSw); go_simp; (try with_reducible rfl))
                  (try simp only [Act.put, List.setIfInBounds_toArray, List.set_cons_zero, List.set_cons_succ])
                  refine wpAnyH_done (by kernel_rfl) ?_ _
                  go_wp2_with fail
                  go_meet
                  case rel => exact ⟨n7, k9, H7, up7, bo, _, K7, rfl, rfl, by omega, by omega, by omega, hl7, HS7, by omega, hv7, hOy.go2 (by omega) _ _ (by omega) (by omega), hOz, hRz, hF⟩
              ·
                go_simp
                have hFa : Fr r w (w3.drew.alloc (.cells #[.int .i64 0, .bool false, .slice none 0 0] 44)) [(w3.drew.heap.size, [.int .i64 0, .bool false, .slice none 0 0]), (n2, [.int .i64 H, .bool up, .slice au nk cu]), (n1, [.int .i64 0, .bool false, .slice none 0 0])] := Fr.alloc (by repeat (first | with_reducible exact hF | with_reducible apply Fr.drew | with_reducible apply Fr.drewN)) _ _ (by have := hR.lt; (try simp only [World.size_drew]); omega)
                clear o
                replace hF := hFa
                clear hFa
                replace hR := Rd.alloc (by repeat (first | assumption | apply Rd.alloc | apply Rd.drew | apply Rd.drewN | (refine Rd.setCell ?_ (by dsimp only; omega) _) | apply Rd.setCell | ((try dsimp only); omega))) (.cells #[.int .i64 0, .bool false, .slice none 0 0] 44)
                replace hO4 := GO4.alloc (by repeat (first | with_reducible exact hO4 | with_reducible apply GO4.drew | with_reducible apply GO4.alloc)) (.cells #[.int .i64 0, .bool false, .slice none 0 0] 44)
                obtain ⟨n7, hn7⟩ : ∃ n7, w3.heap.size = n7 := ⟨_, rfl⟩
                (try simp only [World.size_drew] at hF)
                rw [hn7] at hF ⊢
                have h7a : n7 ≤ w3.heap.size := by omega
                have h7b : w3.heap.size ≤ n7 := by omega
                clear hn7
                have o := hF.own; simp only [World.size_alloc, World.size_drew, World.size_setCell, List.mem_cons, List.not_mem_nil, or_false, forall_eq_or_imp, forall_eq, At, and_true, Nat.zero_add, Nat.reduceAdd, List.set_cons_zero, List.set_cons_succ] at o
                refine hK.out _ _ ?hs (fun hHeld => ?_)
                case hs => ((try dsimp only); first | exact Fr.c30 (by repeat (first | with_reducible exact hF | with_reducible apply Fr.drew | with_reducible apply Fr.drewN)) | exact Fr.c31 (by repeat (first | with_reducible exact hF | with_reducible apply Fr.drew | with_reducible apply Fr.drewN)) | exact Fr.c31 (by repeat (first | assumption | apply Fr.drew | apply Fr.drewN | apply Fr.alloc_1 | apply Fr.alloc_2 | apply Fr.alloc_3 | apply Fr.alloc_4 | apply Fr.alloc_5 | apply Fr.alloc_8 | apply Fr.set | (simp only [List.length_cons, List.length_nil, List.length_set]; omega) | (simp only [List.mem_cons, List.not_mem_nil, or_false, forall_eq_or_imp, forall_eq, ne_eq]; omega) | (simp only [World.size_alloc, World.size_setCell, World.size_drew]; omega) | omega)))
                clear hK KK
                (try simp only [Act.put, List.setIfInBounds_toArray, List.set_cons_zero, List.set_cons_succ])
                refine wpAnyH_ready (rs := [3]) (by kernel_rfl) (by simp) ?_
                refine AllReadyH.cons (o := _) (by simp only [List.getElem?_toArray, List.getElem?_cons_succ, List.getElem?_cons_zero]; rfl) (fun KK hK => ?_) AllReadyH.nil
                go_simp
                (go_at_call 60; go_must (refine (l92From_any r _ h _ (by repeat (first | assumption | apply Rd.alloc | apply Rd.drew | apply Rd.drewN | (refine Rd.setCell ?_ (by dsimp only; omega) _) | apply Rd.setCell | ((try dsimp only); omega))) (by omega) hh).mono ?_); rintro e w5 ⟨f, b, lk, pv, mv, P, M, rfl, hP, hM, hP4, hM9, -, -, ⟨k9, hk9, hR9⟩, hK9⟩; replace hF := Fr.call (by repeat (first | assumption | apply Fr.drew | apply Fr.drewN | apply Fr.alloc_1 | apply Fr.alloc_2 | apply Fr.alloc_3 | apply Fr.alloc_4 | apply Fr.alloc_5 | apply Fr.alloc_8 | apply Fr.set | (simp only [List.length_cons, List.length_nil, List.length_set]; omega) | (simp only [List.mem_cons, List.not_mem_nil, or_false, forall_eq_or_imp, forall_eq, ne_eq]; omega) | (simp only [World.size_alloc, World.size_setCell, World.size_drew]; omega) | omega)) hK9; replace hO4 := GO4.kp (by repeat (first | with_reducible exact hO4 | with_reducible apply GO4.drew | with_reducible apply GO4.alloc)) hK9 (by omega) (by omega); have hs9 := hK9.size; (try simp only [World.size_drew, World.size_alloc] at hs9); replace hR := hR9; obtain ⟨o1, p1, rfl, -⟩ := hP.1.1.ex; obtain ⟨o2, m1, rfl, -⟩ := hM.1.1.ex; have HPM := Lib.hid (And.intro hP.1 hM.1); clear hK9 hR9 hP hM o; have o := hF.own; simp only [World.size_alloc, World.size_drew, World.size_setCell, List.mem_cons, List.not_mem_nil, or_false, forall_eq_or_imp, forall_eq, At, and_true, Nat.zero_add, Nat.reduceAdd, List.set_cons_zero, List.set_cons_succ] at o)
                (try go_wp2_with fail)
                refine hK.out _ _ ?hs (fun hHeld => ?_)
                case hs => ((try dsimp only); first | exact Fr.c30 (by repeat (first | with_reducible exact hF | with_reducible apply Fr.drew | with_reducible apply Fr.drewN)) | exact Fr.c31 (by repeat (first | with_reducible exact hF | with_reducible apply Fr.drew | with_reducible apply Fr.drewN)) | exact Fr.c31 (by repeat (first | assumption | apply Fr.drew | apply Fr.drewN | apply Fr.alloc_1 | apply Fr.alloc_2 | apply Fr.alloc_3 | apply Fr.alloc_4 | apply Fr.alloc_5 | apply Fr.alloc_8 | apply Fr.set | (simp only [List.length_cons, List.length_nil, List.length_set]; omega) | (simp only [List.mem_cons, List.not_mem_nil, or_false, forall_eq_or_imp, forall_eq, ne_eq]; omega) | (simp only [World.size_alloc, World.size_setCell, World.size_drew]; omega) | omega)))
                clear hK KK
                (try simp only [Act.put, List.setIfInBounds_toArray, List.set_cons_zero, List.set_cons_succ])
                refine wpAnyH_ready (rs := [4]) (by kernel_rfl) (by simp) ?_
                refine AllReadyH.cons (o := _) (by simp only [List.getElem?_toArray, List.getElem?_cons_succ, List.getElem?_cons_zero]; rfl) (fun KK hK => ?_) AllReadyH.nil
                go_simp
                (go_at_call 98; go_must (refine (RibTell_any H up _ K f b lk _ _ P M _ (GO4.gls (by repeat (first | with_reducible exact hO4 | with_reducible apply GO4.drew | with_reducible apply GO4.alloc))) HKs.out HPM.out.1 HPM.out.2 ⟨by have := hP4.1; omega, by omega⟩).mono ?_); rintro e w7 ⟨H7, up7, bo, u7, K7, rfl, hR7⟩; obtain ⟨hO7, hl7, hs7, hb7⟩ := hR7; obtain ⟨a7, c7, rfl⟩ := hO7.sl; obtain ⟨n9, hn9⟩ : ∃ n9, Hid (K7.length = n9) := ⟨_, rfl⟩; rw [hn9.out] at hO7 ⊢; replace hO7 := hO7.go2.go4; (try simp only [World.size_alloc] at hO7); replace hR := Rd.below (by repeat (first | assumption | apply Rd.alloc | apply Rd.drew | apply Rd.drewN | (refine Rd.setCell ?_ (by dsimp only; omega) _) | apply Rd.setCell | ((try dsimp only); omega))) hb7 (by have := hR.lt; (try simp only [World.size_alloc]); omega); replace hF := Fr.below (by repeat (first | assumption | apply Fr.drew | apply Fr.drewN | apply Fr.alloc_1 | apply Fr.alloc_2 | apply Fr.alloc_3 | apply Fr.alloc_4 | apply Fr.alloc_5 | apply Fr.alloc_8 | apply Fr.set | (simp only [List.length_cons, List.length_nil, List.length_set]; omega) | (simp only [List.mem_cons, List.not_mem_nil, or_false, forall_eq_or_imp, forall_eq, ne_eq]; omega) | (simp only [World.size_alloc, World.size_setCell, World.size_drew]; omega) | omega)) hb7; replace hO4 := GO4.below (by repeat (first | with_reducible exact hO4 | with_reducible apply GO4.drew | with_reducible apply GO4.alloc)) hb7; have hz7 := hb7.size; (try simp only [World.size_alloc] at hz7); have HS7 := Lib.hid hs7; clear hb7 hs7 o; have o := hF.own; simp only [World.size_alloc, World.size_drew, World.size_setCell, List.mem_cons, List.not_mem_nil, or_false, forall_eq_or_imp, forall_eq, At, and_true, Nat.zero_add, Nat.reduceAdd, List.set_cons_zero, List.set_cons_succ] at o)
                (try go_wp2_with fail)
                refine hK.out _ _ ?hs (fun hHeld => ?_)
                case hs => ((try dsimp only); first | exact Fr.c30 (by repeat (first | with_reducible exact hF | with_reducible apply Fr.drew | with_reducible apply Fr.drewN)) | exact Fr.c31 (by repeat (first | with_reducible exact hF | with_reducible apply Fr.drew | with_reducible apply Fr.drewN)) | exact Fr.c31 (by repeat (first | assumption | apply Fr.drew | apply Fr.drewN | apply Fr.alloc_1 | apply Fr.alloc_2 | apply Fr.alloc_3 | apply Fr.alloc_4 | apply Fr.alloc_5 | apply Fr.alloc_8 | apply Fr.set | (simp only [List.length_cons, List.length_nil, List.length_set]; omega) | (simp only [List.mem_cons, List.not_mem_nil, or_false, forall_eq_or_imp, forall_eq, ne_eq]; omega) | (simp only [World.size_alloc, World.size_setCell, World.size_drew]; omega) | omega)))
                clear hK KK
                (try simp only [Act.put, List.setIfInBounds_toArray, List.set_cons_zero, List.set_cons_succ])
                refine wpAnyH_take (i := 5) (oi := _) (v := ?_) (by simp only [List.getElem?_toArray, List.getElem?_cons_succ, List.getElem?_cons_zero]; rfl) (by kernel_rfl) (by kernel_rfl) (by kernel_rfl) (by exact fun _ _ _ h => h) (Or.inl ⟨by rfl, ?hy⟩) (by assumption) ?_
                case hy => (intro w hSw; (try dsimp only at hSw); go_simp; (try with_reducible rfl))
                (try simp only [Act.put, List.setIfInBounds_toArray, List.set_cons_zero, List.set_cons_succ])
                refine wpAnyH_take (i := 6) (oi := _) (v := ?_) (by simp only [List.getElem?_toArray, List.getElem?_cons_succ, List.getElem?_cons_zero]; rfl) (by kernel_rfl) (by kernel_rfl) (by kernel_rfl) (by exact fun _ _ _ h => h) (Or.inl ⟨by rfl, ?hy⟩) (by assumption) ?_
                case hy => (intro w hSw; (try dsimp only at hSw); go_simp; (try with_reducible rfl))
                (try simp only [Act.put, List.setIfInBounds_toArray, List.set_cons_zero, List.set_cons_succ])
                refine wpAnyH_take (i := 7) (oi := _) (v := ?_) (by simp only [List.getElem?_toArray, List.getElem?_cons_succ, List.getElem?_cons_zero]; rfl) (by kernel_rfl) (by kernel_rfl) (by kernel_rfl) (by exact fun _ _ _ h => h) (Or.inl ⟨by rfl, ?hy⟩) (by assumption) ?_
                case hy => (intro w hSw; (try dsimp only at hSw); go_simp; (try with_reducible rfl))
                (try simp only [Act.put, List.setIfInBounds_toArray, List.set_cons_zero, List.set_cons_succ])
                refine wpAnyH_ready (rs := [9]) (by kernel_rfl) (by simp) ?_
                refine AllReadyH.cons (o := _) (by simp only [List.getElem?_toArray, List.getElem?_cons_succ, List.getElem?_cons_zero]; rfl) (fun KK hK => ?_) AllReadyH.nil
                go_simp
                obtain ⟨wz, hwz, hF2, hsz9, hRk, hOk⟩ := put3q hF (by simp <;> omega) (.int .i64 H7) (.bool up7) (.slice a7 n9 c7)
                rw [← hwz]
                clear hwz o
                have hRz := hRk _ (by omega) hR
                have hOz := hOk _ _ _ _ _ _ _ (Or.inr (by omega)) hO4
                have hOy := hOk _ _ _ _ _ _ _ (Or.inl (by omega)) hO7
                have hv7 := fun e => (by have := hO7.ge n2 e; omega : False)
                replace hF := hF2
                clear hF2 hRk hOk hR hO4 hO7
                refine hK.out _ _ ?hs (fun hHeld => ?_)
                case hs => ((try dsimp only); first | exact Fr.c30 (by repeat (first | with_reducible exact hF | with_reducible apply Fr.drew | with_reducible apply Fr.drewN)) | exact Fr.c31 (by repeat (first | with_reducible exact hF | with_reducible apply Fr.drew | with_reducible apply Fr.drewN)) | exact Fr.c31 (by repeat (first | assumption | apply Fr.drew | apply Fr.drewN | apply Fr.alloc_1 | apply Fr.alloc_2 | apply Fr.alloc_3 | apply Fr.alloc_4 | apply Fr.alloc_5 | apply Fr.alloc_8 | apply Fr.set | (simp only [List.length_cons, List.length_nil, List.length_set]; omega) | (simp only [List.mem_cons, List.not_mem_nil, or_false, forall_eq_or_imp, forall_eq, ne_eq]; omega) | (simp only [World.size_alloc, World.size_setCell, World.size_drew]; omega) | omega)))
                clear hK KK
                (try simp only [Act.put, List.setIfInBounds_toArray, List.set_cons_zero, List.set_cons_succ])
                refine wpAnyH_take (i := 10) (oi := _) (v := ?_) (by simp only [List.getElem?_toArray, List.getElem?_cons_succ, List.getElem?_cons_zero]; rfl) (by kernel_rfl) (by kernel_rfl) (by kernel_rfl) (by exact fun _ _ _ h => h) (Or.inl ⟨by rfl, ?hy⟩) (by assumption) ?_
                case hy => (intro w hSw; (try dsimp only at hSw); go_simp; (try with_reducible rfl))
                (try simp only [Act.put, List.setIfInBounds_toArray, List.set_cons_zero, List.set_cons_succ])
                refine wpAnyH_done (by kernel_rfl) ?_ _
                go_wp2_with fail
                go_meet
                case rel => exact ⟨n7, k9, H7, up7, bo, _, K7, rfl, rfl, by omega, by omega, by omega, hl7, HS7, by omega, hv7, hOy.go2 (by omega) _ _ (by omega) (by omega), hOz, hRz, hF⟩
            case rest =>
              clear hO4 hF o hR
              obtain ⟨n7, k9, H7, up7, bo, u7, K7, rfl, rfl, h7a, h7b, hk9, hl7, HS7, hU7, hv7, hO7, hO4, hR, hF⟩ := hcut
              obtain ⟨a7, c7, rfl⟩ := hO7.sl
              have hs7 := HS7.out
              cases bo with
              | false =>
                replace hF := hF.rest
                have o := hF.own; simp only [World.size_alloc, World.size_drew, World.size_setCell, List.mem_cons, List.not_mem_nil, or_false, forall_eq_or_imp, forall_eq, At, and_true, Nat.zero_add, Nat.reduceAdd, List.set_cons_zero, List.set_cons_succ] at o
                go_wp2_with fail
                go_roundw
                case rel => exact ⟨m', k9, by omega, by go_num, by omega, H, up, _, K, by have := hnk.out; omega, HKs.out, hne, by omega, hO4.go2 hU7 _ _ (Nat.le_refl _) (Nat.le_refl _), hR, hF⟩
                case measure => simp [intOf]; omega
              | true =>
                have o := hF.own; simp only [World.size_alloc, World.size_drew, World.size_setCell, List.mem_cons, List.not_mem_nil, or_false, forall_eq_or_imp, forall_eq, At, and_true, Nat.zero_add, Nat.reduceAdd, List.set_cons_zero, List.set_cons_succ] at o
                go_wp2_with fail
                replace hF := hF.rest
                obtain ⟨wz, hwz, hF2, hR2, hO2, hszz⟩ := put3r hF (by simp <;> omega) hR (by omega) hO7 hv7 (by omega) (.int .i64 H7) (.bool up7) (.slice a7 K7.length c7)
                rw [← hwz]
                clear hwz o hF hR hO7
                go_wp2_with fail
                go_roundw
                case rel => exact ⟨m', k9, by omega, by go_num, by omega, H7, up7, _, K7, hl7, hs7, hv7, by rw [hszz]; omega, hO2, hR2, hF2⟩
                case measure => simp [intOf]; omega
    · have hlt' : ¬ 0 < (m : Int) := by omega
      go_upto_region 15 with (fail)
      go_cut [52] (fun s wx => ∃ (bo : Bool) (k9 : Nat), s = .bool bo ∧ k9 ≤ k' + 1 ∧ LrS r w wx n1 n2 k9 6)
      case first =>
        cases up with
        | true =>
          go_wp2_with fail
          go_meet
          case rel => exact ⟨false, k', rfl, by omega, H, true, _, K, by have := hnk.out; omega, HKs.out, hne, hsz, hO, hR, hF⟩
        | false =>
          go_wp2_with fail
          refine (pick_any r _ _ _ hR (by omega) (by omega) (by omega)).mono ?_; rintro e w4 ⟨v4, rfl, x4, l4, hR4, hK4⟩
          go_wp2_with fail
          go_meet
          case rel => exact ⟨decide (v4 = 0), k' + 1, rfl, by omega, H, false, _, K, by have := hnk.out; omega, HKs.out, hne, by have := hK4.size; omega, hO.kpR hK4 (by omega) (by omega), hR4, hF.call hK4⟩
      case rest =>
        clear hO hR hF o hKl HKs hne hsz hnk
        obtain ⟨bo, k9, rfl, hk9, hS⟩ := hcut
        clear H up K
        obtain ⟨H, up, u, K, hKl, hKs, hne, hsz, hO, hR, hF⟩ := hS
        obtain ⟨au, cu, rfl⟩ := hO.sl
        obtain ⟨nk, hnk⟩ : ∃ nk, Hid (K.length = nk) := ⟨_, rfl⟩
        rw [hnk.out] at hO hF hne hKl
        have HKs := Lib.hid hKs
        clear hKs
        have o := hF.own; simp only [World.size_alloc, World.size_drew, World.size_setCell, List.mem_cons, List.not_mem_nil, or_false, forall_eq_or_imp, forall_eq, At, and_true, Nat.zero_add, Nat.reduceAdd, List.set_cons_zero, List.set_cons_succ] at o
        go_upto_if 52 with (fail)
        go_cut [52] (fun _ wx => LrS r w wx n1 n2 k9 6)
        case first =>
          cases bo with
          | false =>
            go_wp2_with fail
            go_meet
            case rel => exact ⟨H, up, _, K, by have := hnk.out; omega, HKs.out, hne, hsz, hO, hR, hF⟩
          | true =>
            go_wp2_with fail
            refine (RibUp_any H up _ K _ hO.gls HKs.out).mono ?_; rintro e w7 ⟨H7, up7, u7, K7, rfl, hR7⟩
            obtain ⟨hO7, hl7, hs7, hb7⟩ := hR7
            obtain ⟨a7, c7, rfl⟩ := hO7.sl
            have hv7 := fun e => (by have := hO7.ge n2 e; omega : False)
            replace hR := hR.below hb7 (by have := hR.lt; omega)
            replace hF := hF.below hb7
            have hz7 := hb7.size
            replace hO7 := hO7.go2R (n1 + 1) (n2 + 1) (by omega) (by omega)
            clear hb7 o
            have o := hF.own; simp only [World.size_alloc, World.size_drew, World.size_setCell, List.mem_cons, List.not_mem_nil, or_false, forall_eq_or_imp, forall_eq, At, and_true, Nat.zero_add, Nat.reduceAdd, List.set_cons_zero, List.set_cons_succ] at o
            go_wp2_with fail
            obtain ⟨wz, hwz, hF2, hR2, hO2, hszz⟩ := put3r hF (by simp <;> omega) hR (by omega) hO7 hv7 (by omega) (.int .i64 H7) (.bool up7) (.slice a7 K7.length c7)
            rw [← hwz]
            clear hwz o hF hR hO7
            go_wp2_with fail
            go_meet
            case rel => exact ⟨H7, up7, _, K7, hl7, hs7, hv7, by rw [hszz]; omega, hO2, hR2, hF2⟩
        case rest =>
          clear hO hR hF o hKl HKs hne hsz hnk
          have hS := hcut
          clear hcut H up K
          obtain ⟨H, up, u, K, hKl, hKs, hne, hsz, hO, hR, hF⟩ := hS
          obtain ⟨au, cu, rfl⟩ := hO.sl
          obtain ⟨nk, hnk⟩ : ∃ nk, Hid (K.length = nk) := ⟨_, rfl⟩
          rw [hnk.out] at hO hF hne hKl
          have HKs := Lib.hid hKs
          clear hKs
          have o := hF.own; simp only [World.size_alloc, World.size_drew, World.size_setCell, List.mem_cons, List.not_mem_nil, or_false, forall_eq_or_imp, forall_eq, At, and_true, Nat.zero_add, Nat.reduceAdd, List.set_cons_zero, List.set_cons_succ] at o
          go_wp2_with fail
          refine (pick_any r _ _ _ hR (by omega) (by omega) (by omega)).mono ?_; rintro e w4 ⟨v4, rfl, x4, l4, hR4, hK4⟩
          have hs4 := hK4.size
          replace hF := hF.call hK4
          replace hO := hO.kpR hK4 (by omega) (by omega)
          replace hR := hR4
          clear hK4 hR4 o
          have o := hF.own; simp only [World.size_alloc, World.size_drew, World.size_setCell, List.mem_cons, List.not_mem_nil, or_false, forall_eq_or_imp, forall_eq, At, and_true, Nat.zero_add, Nat.reduceAdd, List.set_cons_zero, List.set_cons_succ] at o
          by_cases h0 : v4 = 0
          · subst h0
            go_upto_region 22 with (fail)
            replace hF := hF.set 1 (.bool (!up)) (by simp) (by simp <;> omega)
            replace hO := hO.put (p := ⟨n2, 1, none⟩) hne (by dsimp only; omega) (.bool (!up))
            replace hR := Rd.setCell (p := ⟨n2, 1, none⟩) hR (by dsimp only; omega) (.bool (!up))
            clear o
            have o := hF.own; simp only [World.size_alloc, World.size_drew, World.size_setCell, List.mem_cons, List.not_mem_nil, or_false, forall_eq_or_imp, forall_eq, At, and_true, Nat.zero_add, Nat.reduceAdd, List.set_cons_zero, List.set_cons_succ] at o
            go_wp2_with fail
            obtain ⟨wf, hwf, hFf, hRf, hOf, hsf⟩ := put3r (Fr.two hF) (by simp <;> omega) hR (by omega) hO (fun e => by have := hO.ge _ e; omega) (by omega) (.int .i64 H) (.bool (!up)) (.slice au nk cu)
            rw [← hwf]
            clear hwf o hF hR hO
            have hF := hFf
            have o := hF.own; simp only [World.size_alloc, World.size_drew, World.size_setCell, List.mem_cons, List.not_mem_nil, or_false, forall_eq_or_imp, forall_eq, At, and_true, Nat.zero_add, Nat.reduceAdd, List.set_cons_zero, List.set_cons_succ] at o
            refine bodyPost_ret (v := .agg #[.int .i64 H, .bool (!up), .slice au nk cu]) ?_ rfl ?_
            · simp [results, Tryd.results62, go_sem, o]
            · exact ⟨_, _, _, K, rfl, hOf.gown' _ (by have := HN.out; omega) (by have := HN.out; omega), (by have := hnk.out; omega), HKs.out, ⟨_, by omega, hRf⟩, hF.kp⟩
          · have d0 : (v4 == 0) = false := by simp [h0]
            by_cases h1 : v4 = 1
            · subst h1
              go_upto_region 21 with (fail)
              refine wp_region_held_drew (S := fun _ => True) (by kernel_rfl) ?hs (fun hHeld => ?_)
              case hs => exact trivial
              refine wpAnyH_take (i := 0) (oi := _) (v := ?_) (by simp only [List.getElem?_toArray, List.getElem?_cons_succ, List.getElem?_cons_zero]; rfl) (by kernel_rfl) (by kernel_rfl) (by kernel_rfl) (by exact fun _ _ _ h => h) (Or.inl ⟨by rfl, ?hy⟩) (by assumption) ?_
              case hy => (intro w hSw; (try dsimp only at hSw); go_simp; (try with_reducible rfl))
              (try simp only [Act.put, List.setIfInBounds_toArray, List.set_cons_zero, List.set_cons_succ])
              refine wpAnyH_take (i := 2) (oi := _) (v := ?_) (by simp only [List.getElem?_toArray, List.getElem?_cons_succ, List.getElem?_cons_zero]; rfl) (by kernel_rfl) (by kernel_rfl) (by kernel_rfl) (by exact fun _ _ _ h => h) (Or.inl ⟨by rfl, ?hy⟩) (by assumption) ?_
              case hy => (intro w hSw; (try dsimp only at hSw); go_simp; (try with_reducible rfl))
              (try simp only [Act.put, List.setIfInBounds_toArray, List.set_cons_zero, List.set_cons_succ])
              refine wpAnyH_ready (rs := [1, 3]) (by kernel_rfl) (by simp) ?_
              refine AllReadyH.cons (o := _) (by simp only [List.getElem?_toArray, List.getElem?_cons_succ, List.getElem?_cons_zero]; rfl) (fun KK hK => ?_) (AllReadyH.cons (o := _) (by simp only [List.getElem?_toArray, List.getElem?_cons_succ, List.getElem?_cons_zero]; rfl) (fun KK hK => ?_) AllReadyH.nil)
              ·
                go_simp
                refine hK.out _ _ ?hs (fun hHeld => ?_)
                case hs => exact trivial
                clear hK KK
                (try simp only [Act.put, List.setIfInBounds_toArray, List.set_cons_zero, List.set_cons_succ])
                refine wpAnyH_ready (rs := [3]) (by kernel_rfl) (by simp) ?_
                refine AllReadyH.cons (o := _) (by simp only [List.getElem?_toArray, List.getElem?_cons_succ, List.getElem?_cons_zero]; rfl) (fun KK hK => ?_) AllReadyH.nil
                go_simp
                (go_at_call 36; go_must (refine (l91Route_any r _ _ (by repeat (first | assumption | apply Rd.alloc | apply Rd.drew | apply Rd.drewN | (refine Rd.setCell ?_ (by dsimp only; omega) _) | apply Rd.setCell | ((try dsimp only); omega))) (by omega)).mono ?_); rintro e wy ⟨f, b, lk, pv9, mv9, P, M, rfl, y1, y2, hP4, hM9, -, -, ⟨k8, hk8, hR8⟩, hK8⟩; obtain ⟨oy1, cy1, rfl, -⟩ := y1.1.1.ex; obtain ⟨oy2, cy2, rfl, -⟩ := y2.1.1.ex; have hlo := hO.lt; have hsy := hK8.size; (try simp only [World.size_drew] at hsy y1 y2); replace hF := Fr.call (by repeat (first | with_reducible exact hF | with_reducible apply Fr.drew | with_reducible apply Fr.drewN)) hK8; replace hO := GO2.kpR (by repeat (first | with_reducible exact hO | with_reducible apply GO2.drew | with_reducible apply GO2.alloc)) hK8 (by omega) (by omega); replace hR := hR8; clear hK8 hR8 o; have o := hF.own; simp only [World.size_alloc, World.size_drew, World.size_setCell, List.mem_cons, List.not_mem_nil, or_false, forall_eq_or_imp, forall_eq, At, and_true, Nat.zero_add, Nat.reduceAdd, List.set_cons_zero, List.set_cons_succ] at o)
                (try go_wp2_with fail)
                refine hK.out _ _ ?hs (fun hHeld => ?_)
                case hs => exact trivial
                clear hK KK
                (try simp only [Act.put, List.setIfInBounds_toArray, List.set_cons_zero, List.set_cons_succ])
                refine wpAnyH_take (i := 4) (oi := _) (v := ?_) (by simp only [List.getElem?_toArray, List.getElem?_cons_succ, List.getElem?_cons_zero]; rfl) (by kernel_rfl) (by kernel_rfl) (by kernel_rfl) (by exact fun _ _ _ h => h) (Or.inl ⟨by rfl, ?hy⟩) (by assumption) ?_
                case hy => (intro w hSw; (try dsimp only at hSw); go_simp; (try with_reducible rfl))
                (try simp only [Act.put, List.setIfInBounds_toArray, List.set_cons_zero, List.set_cons_succ])
                refine wpAnyH_ready (rs := [5]) (by kernel_rfl) (by simp) ?_
                refine AllReadyH.cons (o := _) (by simp only [List.getElem?_toArray, List.getElem?_cons_succ, List.getElem?_cons_zero]; rfl) (fun KK hK => ?_) AllReadyH.nil
                go_simp
                refine hK.out _ _ ?hs (fun hHeld => ?_)
                case hs => exact trivial
                clear hK KK
                (try simp only [Act.put, List.setIfInBounds_toArray, List.set_cons_zero, List.set_cons_succ])
                refine wpAnyH_ready (rs := [6]) (by kernel_rfl) (by simp) ?_
                refine AllReadyH.cons (o := _) (by simp only [List.getElem?_toArray, List.getElem?_cons_succ, List.getElem?_cons_zero]; rfl) (fun KK hK => ?_) AllReadyH.nil
                (obtain ⟨ds, hOw, hG⟩ := hO; have hlG := hG.1; refine step_app (by rfl) _ _ 42 (by rfl) 48 (.agg #[.int .i64 0, .int .i64 0, .slice none 0 0, .int .i64 0, .slice none 0 0, .bool false]) 6 80 Tryd.underlying42 infoGt rfl (by decide) (by decide) (n1 + 1) encGt _ ds rfl (hOw.alloc _) (⟨f, b, lk, .slice oy1 P.length cy1, .slice oy2 M.length cy2, false⟩ : GtD) ⟨_, 0, none⟩ 1 rfl rfl (cells_new _ _ _) (by simp [encGt, Value.oneCell']) (by have := hnk.out; omega) (by simp only [World.size_alloc]; omega) ?_)
                intro v9 wz hO9 hg9 hb9 hf9
                have hO2 := g2_snoc (s := ((f, b, lk, P, M), false)) hG ((Below.refl _ _).alloc (Nat.le_refl _) _) hO9 hg9 hf9 (Sh.below (S := shGt) ⟨⟨rfl, rfl, rfl, rfl⟩, y1.1, y2.1⟩ ((Below.refl _ _).alloc (Nat.le_refl _) _)) (sub2 (fun g h => ⟨by have := y1.2 g h; omega, by have := y1.2 g h; simp only [World.size_alloc]; omega, fun e => by have := y1.2 g h; have := hlo g e; omega⟩) (fun g h => ⟨by have := y2.2 g h; omega, by have := y2.2 g h; simp only [World.size_alloc]; omega, fun e => by have := y2.2 g h; have := hlo g e; omega⟩))
                have hsz9 := hb9.size
                simp only [World.size_alloc] at hsz9
                replace hF := (Fr.other (by repeat (first | with_reducible exact hF | with_reducible apply Fr.drew | with_reducible apply Fr.drewN)) (.cells #[.int .i64 f, .int .i64 b, .slice oy1 P.length cy1, .int .i64 lk, .slice oy2 M.length cy2, .bool false] 48)).grown hg9 (fun g' hg => by have := hOw.ge g' hg; have := HN.out; omega) (fun p hp e => by have := hOw.ge _ e; simp only [List.mem_cons, List.not_mem_nil, or_false] at hp; rcases hp with rfl | rfl; exact hne e; simp at this <;> omega)
                have hne2 := frsh_off hf9 hne (by simp only [World.size_alloc]; omega)
                replace hR := Rd.below (Rd.alloc (by repeat (first | assumption | apply Rd.alloc | apply Rd.drew | apply Rd.drewN | (refine Rd.setCell ?_ (by dsimp only; omega) _) | apply Rd.setCell | ((try dsimp only); omega))) (.cells #[.int .i64 f, .int .i64 b, .slice oy1 P.length cy1, .int .i64 lk, .slice oy2 M.length cy2, .bool false] 48)) hb9 (by omega)
                obtain ⟨a9, c9, rfl⟩ := hO2.sl
                obtain ⟨n9, hn9⟩ : ∃ n9, Hid ((K ++ [((f, b, lk, P, M), false)]).length = n9) := ⟨_, rfl⟩
                rw [hn9.out] at hO2 hne2 ⊢
                clear hg9 hb9 hf9 hO9 hOw hG o hlG
                have o := hF.own; simp only [World.size_alloc, World.size_drew, World.size_setCell, List.mem_cons, List.not_mem_nil, or_false, forall_eq_or_imp, forall_eq, At, and_true, Nat.zero_add, Nat.reduceAdd, List.set_cons_zero, List.set_cons_succ] at o
                refine hK.out _ _ ?hs (fun hHeld => ?_)
                case hs => exact trivial
                clear hK KK
                (try simp only [Act.put, List.setIfInBounds_toArray, List.set_cons_zero, List.set_cons_succ])
                refine wpAnyH_take (i := 7) (oi := _) (v := ?_) (by simp only [List.getElem?_toArray, List.getElem?_cons_succ, List.getElem?_cons_zero]; rfl) (by kernel_rfl) (by kernel_rfl) (by kernel_rfl) (by exact fun _ _ _ h => h) (Or.inl ⟨by rfl, ?hy⟩) (by assumption) ?_
                case hy => (intro w hSw; (try dsimp only at hSw); go_simp; (try with_reducible rfl))
                (try simp only [Act.put, List.setIfInBounds_toArray, List.set_cons_zero, List.set_cons_succ])
                refine wpAnyH_ready (rs := [8]) (by kernel_rfl) (by simp) ?_
                refine AllReadyH.cons (o := _) (by simp only [List.getElem?_toArray, List.getElem?_cons_succ, List.getElem?_cons_zero]; rfl) (fun KK hK => ?_) AllReadyH.nil
                go_simp
                replace hF := hF.set 2 (.slice a9 n9 c9) (by simp) (by simp <;> omega)
                have hO := hO2.put (p := ⟨n2, 2, none⟩) hne2 (by dsimp only; omega) (.slice a9 n9 c9)
                replace hR := Rd.setCell (p := ⟨n2, 2, none⟩) hR (by dsimp only; omega) (.slice a9 n9 c9)
                refine hK.out _ _ ?hs (fun hHeld => ?_)
                case hs => exact trivial
                clear hK KK
                (try simp only [Act.put, List.setIfInBounds_toArray, List.set_cons_zero, List.set_cons_succ])
                refine wpAnyH_done (by kernel_rfl) ?_ _
                clear hO2 o
                have o := hF.own; simp only [World.size_alloc, World.size_drew, World.size_setCell, List.mem_cons, List.not_mem_nil, or_false, forall_eq_or_imp, forall_eq, At, and_true, Nat.zero_add, Nat.reduceAdd, List.set_cons_zero, List.set_cons_succ] at o
                go_wp2_with fail
                obtain ⟨wf, hwf, hFf, hRf, hOf, hsf⟩ := put3r (Fr.two hF) (by simp <;> omega) hR (by omega) hO (fun e => by have := hO.ge _ e; omega) (by omega) (.int .i64 H) (.bool up) (.slice a9 n9 c9)
                rw [← hwf]
                clear hwf o hF hR hO
                have hF := hFf
                have o := hF.own; simp only [World.size_alloc, World.size_drew, World.size_setCell, List.mem_cons, List.not_mem_nil, or_false, forall_eq_or_imp, forall_eq, At, and_true, Nat.zero_add, Nat.reduceAdd, List.set_cons_zero, List.set_cons_succ] at o
                refine bodyPost_ret (v := .agg #[.int .i64 H, .bool up, .slice a9 n9 c9]) ?_ rfl ?_
                · simp [results, Tryd.results62, go_sem, o]
                · exact ⟨_, _, _, K ++ [((f, b, lk, P, M), false)], rfl, hOf.gown' _ (by have := HN.out; omega) (by have := HN.out; omega), (by have := hnk.out; simp; omega), smg_snoc HKs.out (show SmG ((f, b, lk, P, M), false) from ⟨(by have := hP4.1; omega : P.length ≤ 100), (by omega : M.length ≤ 100)⟩), ⟨_, by omega, hRf⟩, hF.kp⟩
              ·
                go_simp
                (go_at_call 36; go_must (refine (l91Route_any r _ _ (by repeat (first | assumption | apply Rd.alloc | apply Rd.drew | apply Rd.drewN | (refine Rd.setCell ?_ (by dsimp only; omega) _) | apply Rd.setCell | ((try dsimp only); omega))) (by omega)).mono ?_); rintro e wy ⟨f, b, lk, pv9, mv9, P, M, rfl, y1, y2, hP4, hM9, -, -, ⟨k8, hk8, hR8⟩, hK8⟩; obtain ⟨oy1, cy1, rfl, -⟩ := y1.1.1.ex; obtain ⟨oy2, cy2, rfl, -⟩ := y2.1.1.ex; have hlo := hO.lt; have hsy := hK8.size; (try simp only [World.size_drew] at hsy y1 y2); replace hF := Fr.call (by repeat (first | with_reducible exact hF | with_reducible apply Fr.drew | with_reducible apply Fr.drewN)) hK8; replace hO := GO2.kpR (by repeat (first | with_reducible exact hO | with_reducible apply GO2.drew | with_reducible apply GO2.alloc)) hK8 (by omega) (by omega); replace hR := hR8; clear hK8 hR8 o; have o := hF.own; simp only [World.size_alloc, World.size_drew, World.size_setCell, List.mem_cons, List.not_mem_nil, or_false, forall_eq_or_imp, forall_eq, At, and_true, Nat.zero_add, Nat.reduceAdd, List.set_cons_zero, List.set_cons_succ] at o)
                (try go_wp2_with fail)
                refine hK.out _ _ ?hs (fun hHeld => ?_)
                case hs => exact trivial
                clear hK KK
                (try simp only [Act.put, List.setIfInBounds_toArray, List.set_cons_zero, List.set_cons_succ])
                refine wpAnyH_take (i := 4) (oi := _) (v := ?_) (by simp only [List.getElem?_toArray, List.getElem?_cons_succ, List.getElem?_cons_zero]; rfl) (by kernel_rfl) (by kernel_rfl) (by kernel_rfl) (by exact fun _ _ _ h => h) (Or.inl ⟨by rfl, ?hy⟩) (by assumption) ?_
                case hy => (intro w hSw; (try dsimp only at hSw); go_simp; (try with_reducible rfl))
                (try simp only [Act.put, List.setIfInBounds_toArray, List.set_cons_zero, List.set_cons_succ])
                refine wpAnyH_ready (rs := [1, 5]) (by kernel_rfl) (by simp) ?_
                refine AllReadyH.cons (o := _) (by simp only [List.getElem?_toArray, List.getElem?_cons_succ, List.getElem?_cons_zero]; rfl) (fun KK hK => ?_) (AllReadyH.cons (o := _) (by simp only [List.getElem?_toArray, List.getElem?_cons_succ, List.getElem?_cons_zero]; rfl) (fun KK hK => ?_) AllReadyH.nil)
                ·
                  go_simp
                  refine hK.out _ _ ?hs (fun hHeld => ?_)
                  case hs => exact trivial
                  clear hK KK
                  (try simp only [Act.put, List.setIfInBounds_toArray, List.set_cons_zero, List.set_cons_succ])
                  refine wpAnyH_ready (rs := [5]) (by kernel_rfl) (by simp) ?_
                  refine AllReadyH.cons (o := _) (by simp only [List.getElem?_toArray, List.getElem?_cons_succ, List.getElem?_cons_zero]; rfl) (fun KK hK => ?_) AllReadyH.nil
                  go_simp
                  refine hK.out _ _ ?hs (fun hHeld => ?_)
                  case hs => exact trivial
                  clear hK KK
                  (try simp only [Act.put, List.setIfInBounds_toArray, List.set_cons_zero, List.set_cons_succ])
                  refine wpAnyH_ready (rs := [6]) (by kernel_rfl) (by simp) ?_
                  refine AllReadyH.cons (o := _) (by simp only [List.getElem?_toArray, List.getElem?_cons_succ, List.getElem?_cons_zero]; rfl) (fun KK hK => ?_) AllReadyH.nil
                  (obtain ⟨ds, hOw, hG⟩ := hO; have hlG := hG.1; refine step_app (by rfl) _ _ 42 (by rfl) 48 (.agg #[.int .i64 0, .int .i64 0, .slice none 0 0, .int .i64 0, .slice none 0 0, .bool false]) 6 80 Tryd.underlying42 infoGt rfl (by decide) (by decide) (n1 + 1) encGt _ ds rfl (hOw.alloc _) (⟨f, b, lk, .slice oy1 P.length cy1, .slice oy2 M.length cy2, false⟩ : GtD) ⟨_, 0, none⟩ 1 rfl rfl (cells_new _ _ _) (by simp [encGt, Value.oneCell']) (by have := hnk.out; omega) (by simp only [World.size_alloc]; omega) ?_)
                  intro v9 wz hO9 hg9 hb9 hf9
                  have hO2 := g2_snoc (s := ((f, b, lk, P, M), false)) hG ((Below.refl _ _).alloc (Nat.le_refl _) _) hO9 hg9 hf9 (Sh.below (S := shGt) ⟨⟨rfl, rfl, rfl, rfl⟩, y1.1, y2.1⟩ ((Below.refl _ _).alloc (Nat.le_refl _) _)) (sub2 (fun g h => ⟨by have := y1.2 g h; omega, by have := y1.2 g h; simp only [World.size_alloc]; omega, fun e => by have := y1.2 g h; have := hlo g e; omega⟩) (fun g h => ⟨by have := y2.2 g h; omega, by have := y2.2 g h; simp only [World.size_alloc]; omega, fun e => by have := y2.2 g h; have := hlo g e; omega⟩))
                  have hsz9 := hb9.size
                  simp only [World.size_alloc] at hsz9
                  replace hF := (Fr.other (by repeat (first | with_reducible exact hF | with_reducible apply Fr.drew | with_reducible apply Fr.drewN)) (.cells #[.int .i64 f, .int .i64 b, .slice oy1 P.length cy1, .int .i64 lk, .slice oy2 M.length cy2, .bool false] 48)).grown hg9 (fun g' hg => by have := hOw.ge g' hg; have := HN.out; omega) (fun p hp e => by have := hOw.ge _ e; simp only [List.mem_cons, List.not_mem_nil, or_false] at hp; rcases hp with rfl | rfl; exact hne e; simp at this <;> omega)
                  have hne2 := frsh_off hf9 hne (by simp only [World.size_alloc]; omega)
                  replace hR := Rd.below (Rd.alloc (by repeat (first | assumption | apply Rd.alloc | apply Rd.drew | apply Rd.drewN | (refine Rd.setCell ?_ (by dsimp only; omega) _) | apply Rd.setCell | ((try dsimp only); omega))) (.cells #[.int .i64 f, .int .i64 b, .slice oy1 P.length cy1, .int .i64 lk, .slice oy2 M.length cy2, .bool false] 48)) hb9 (by omega)
                  obtain ⟨a9, c9, rfl⟩ := hO2.sl
                  obtain ⟨n9, hn9⟩ : ∃ n9, Hid ((K ++ [((f, b, lk, P, M), false)]).length = n9) := ⟨_, rfl⟩
                  rw [hn9.out] at hO2 hne2 ⊢
                  clear hg9 hb9 hf9 hO9 hOw hG o hlG
                  have o := hF.own; simp only [World.size_alloc, World.size_drew, World.size_setCell, List.mem_cons, List.not_mem_nil, or_false, forall_eq_or_imp, forall_eq, At, and_true, Nat.zero_add, Nat.reduceAdd, List.set_cons_zero, List.set_cons_succ] at o
                  refine hK.out _ _ ?hs (fun hHeld => ?_)
                  case hs => exact trivial
                  clear hK KK
                  (try simp only [Act.put, List.setIfInBounds_toArray, List.set_cons_zero, List.set_cons_succ])
                  refine wpAnyH_take (i := 7) (oi := _) (v := ?_) (by simp only [List.getElem?_toArray, List.getElem?_cons_succ, List.getElem?_cons_zero]; rfl) (by kernel_rfl) (by kernel_rfl) (by kernel_rfl) (by exact fun _ _ _ h => h) (Or.inl ⟨by rfl, ?hy⟩) (by assumption) ?_
                  case hy => (intro w hSw; (try dsimp only at hSw); go_simp; (try with_reducible rfl))
                  (try simp only [Act.put, List.setIfInBounds_toArray, List.set_cons_zero, List.set_cons_succ])
                  refine wpAnyH_ready (rs := [8]) (by kernel_rfl) (by simp) ?_
                  refine AllReadyH.cons (o := _) (by simp only [List.getElem?_toArray, List.getElem?_cons_succ, List.getElem?_cons_zero]; rfl) (fun KK hK => ?_) AllReadyH.nil
                  go_simp
                  replace hF := hF.set 2 (.slice a9 n9 c9) (by simp) (by simp <;> omega)
                  have hO := hO2.put (p := ⟨n2, 2, none⟩) hne2 (by dsimp only; omega) (.slice a9 n9 c9)
                  replace hR := Rd.setCell (p := ⟨n2, 2, none⟩) hR (by dsimp only; omega) (.slice a9 n9 c9)
                  refine hK.out _ _ ?hs (fun hHeld => ?_)
                  case hs => exact trivial
                  clear hK KK
                  (try simp only [Act.put, List.setIfInBounds_toArray, List.set_cons_zero, List.set_cons_succ])
                  refine wpAnyH_done (by kernel_rfl) ?_ _
                  clear hO2 o
                  have o := hF.own; simp only [World.size_alloc, World.size_drew, World.size_setCell, List.mem_cons, List.not_mem_nil, or_false, forall_eq_or_imp, forall_eq, At, and_true, Nat.zero_add, Nat.reduceAdd, List.set_cons_zero, List.set_cons_succ] at o
                  go_wp2_with fail
                  obtain ⟨wf, hwf, hFf, hRf, hOf, hsf⟩ := put3r (Fr.two hF) (by simp <;> omega) hR (by omega) hO (fun e => by have := hO.ge _ e; omega) (by omega) (.int .i64 H) (.bool up) (.slice a9 n9 c9)
                  rw [← hwf]
                  clear hwf o hF hR hO
                  have hF := hFf
                  have o := hF.own; simp only [World.size_alloc, World.size_drew, World.size_setCell, List.mem_cons, List.not_mem_nil, or_false, forall_eq_or_imp, forall_eq, At, and_true, Nat.zero_add, Nat.reduceAdd, List.set_cons_zero, List.set_cons_succ] at o
                  refine bodyPost_ret (v := .agg #[.int .i64 H, .bool up, .slice a9 n9 c9]) ?_ rfl ?_
                  · simp [results, Tryd.results62, go_sem, o]
                  · exact ⟨_, _, _, K ++ [((f, b, lk, P, M), false)], rfl, hOf.gown' _ (by have := HN.out; omega) (by have := HN.out; omega), (by have := hnk.out; simp; omega), smg_snoc HKs.out (show SmG ((f, b, lk, P, M), false) from ⟨(by have := hP4.1; omega : P.length ≤ 100), (by omega : M.length ≤ 100)⟩), ⟨_, by omega, hRf⟩, hF.kp⟩
                ·
                  go_simp
                  refine hK.out _ _ ?hs (fun hHeld => ?_)
                  case hs => exact trivial
                  clear hK KK
                  (try simp only [Act.put, List.setIfInBounds_toArray, List.set_cons_zero, List.set_cons_succ])
                  refine wpAnyH_ready (rs := [1]) (by kernel_rfl) (by simp) ?_
                  refine AllReadyH.cons (o := _) (by simp only [List.getElem?_toArray, List.getElem?_cons_succ, List.getElem?_cons_zero]; rfl) (fun KK hK => ?_) AllReadyH.nil
                  go_simp
                  refine hK.out _ _ ?hs (fun hHeld => ?_)
                  case hs => exact trivial
                  clear hK KK
                  (try simp only [Act.put, List.setIfInBounds_toArray, List.set_cons_zero, List.set_cons_succ])
                  refine wpAnyH_ready (rs := [6]) (by kernel_rfl) (by simp) ?_
                  refine AllReadyH.cons (o := _) (by simp only [List.getElem?_toArray, List.getElem?_cons_succ, List.getElem?_cons_zero]; rfl) (fun KK hK => ?_) AllReadyH.nil
                  (obtain ⟨ds, hOw, hG⟩ := hO; have hlG := hG.1; refine step_app (by rfl) _ _ 42 (by rfl) 48 (.agg #[.int .i64 0, .int .i64 0, .slice none 0 0, .int .i64 0, .slice none 0 0, .bool false]) 6 80 Tryd.underlying42 infoGt rfl (by decide) (by decide) (n1 + 1) encGt _ ds rfl (hOw.alloc _) (⟨f, b, lk, .slice oy1 P.length cy1, .slice oy2 M.length cy2, false⟩ : GtD) ⟨_, 0, none⟩ 1 rfl rfl (cells_new _ _ _) (by simp [encGt, Value.oneCell']) (by have := hnk.out; omega) (by simp only [World.size_alloc]; omega) ?_)
                  intro v9 wz hO9 hg9 hb9 hf9
                  have hO2 := g2_snoc (s := ((f, b, lk, P, M), false)) hG ((Below.refl _ _).alloc (Nat.le_refl _) _) hO9 hg9 hf9 (Sh.below (S := shGt) ⟨⟨rfl, rfl, rfl, rfl⟩, y1.1, y2.1⟩ ((Below.refl _ _).alloc (Nat.le_refl _) _)) (sub2 (fun g h => ⟨by have := y1.2 g h; omega, by have := y1.2 g h; simp only [World.size_alloc]; omega, fun e => by have := y1.2 g h; have := hlo g e; omega⟩) (fun g h => ⟨by have := y2.2 g h; omega, by have := y2.2 g h; simp only [World.size_alloc]; omega, fun e => by have := y2.2 g h; have := hlo g e; omega⟩))
                  have hsz9 := hb9.size
                  simp only [World.size_alloc] at hsz9
                  replace hF := (Fr.other (by repeat (first | with_reducible exact hF | with_reducible apply Fr.drew | with_reducible apply Fr.drewN)) (.cells #[.int .i64 f, .int .i64 b, .slice oy1 P.length cy1, .int .i64 lk, .slice oy2 M.length cy2, .bool false] 48)).grown hg9 (fun g' hg => by have := hOw.ge g' hg; have := HN.out; omega) (fun p hp e => by have := hOw.ge _ e; simp only [List.mem_cons, List.not_mem_nil, or_false] at hp; rcases hp with rfl | rfl; exact hne e; simp at this <;> omega)
                  have hne2 := frsh_off hf9 hne (by simp only [World.size_alloc]; omega)
                  replace hR := Rd.below (Rd.alloc (by repeat (first | assumption | apply Rd.alloc | apply Rd.drew | apply Rd.drewN | (refine Rd.setCell ?_ (by dsimp only; omega) _) | apply Rd.setCell | ((try dsimp only); omega))) (.cells #[.int .i64 f, .int .i64 b, .slice oy1 P.length cy1, .int .i64 lk, .slice oy2 M.length cy2, .bool false] 48)) hb9 (by omega)
                  obtain ⟨a9, c9, rfl⟩ := hO2.sl
                  obtain ⟨n9, hn9⟩ : ∃ n9, Hid ((K ++ [((f, b, lk, P, M), false)]).length = n9) := ⟨_, rfl⟩
                  rw [hn9.out] at hO2 hne2 ⊢
                  clear hg9 hb9 hf9 hO9 hOw hG o hlG
                  have o := hF.own; simp only [World.size_alloc, World.size_drew, World.size_setCell, List.mem_cons, List.not_mem_nil, or_false, forall_eq_or_imp, forall_eq, At, and_true, Nat.zero_add, Nat.reduceAdd, List.set_cons_zero, List.set_cons_succ] at o
                  refine hK.out _ _ ?hs (fun hHeld => ?_)
                  case hs => exact trivial
                  clear hK KK
                  (try simp only [Act.put, List.setIfInBounds_toArray, List.set_cons_zero, List.set_cons_succ])
                  refine wpAnyH_take (i := 7) (oi := _) (v := ?_) (by simp only [List.getElem?_toArray, List.getElem?_cons_succ, List.getElem?_cons_zero]; rfl) (by kernel_rfl) (by kernel_rfl) (by kernel_rfl) (by exact fun _ _ _ h => h) (Or.inl ⟨by rfl, ?hy⟩) (by assumption) ?_
                  case hy => (intro w hSw; (try dsimp only at hSw); go_simp; (try with_reducible rfl))
                  (try simp only [Act.put, List.setIfInBounds_toArray, List.set_cons_zero, List.set_cons_succ])
                  refine wpAnyH_ready (rs := [8]) (by kernel_rfl) (by simp) ?_
                  refine AllReadyH.cons (o := _) (by simp only [List.getElem?_toArray, List.getElem?_cons_succ, List.getElem?_cons_zero]; rfl) (fun KK hK => ?_) AllReadyH.nil
                  go_simp
                  replace hF := hF.set 2 (.slice a9 n9 c9) (by simp) (by simp <;> omega)
                  have hO := hO2.put (p := ⟨n2, 2, none⟩) hne2 (by dsimp only; omega) (.slice a9 n9 c9)
                  replace hR := Rd.setCell (p := ⟨n2, 2, none⟩) hR (by dsimp only; omega) (.slice a9 n9 c9)
                  refine hK.out _ _ ?hs (fun hHeld => ?_)
                  case hs => exact trivial
                  clear hK KK
                  (try simp only [Act.put, List.setIfInBounds_toArray, List.set_cons_zero, List.set_cons_succ])
                  refine wpAnyH_done (by kernel_rfl) ?_ _
                  clear hO2 o
                  have o := hF.own; simp only [World.size_alloc, World.size_drew, World.size_setCell, List.mem_cons, List.not_mem_nil, or_false, forall_eq_or_imp, forall_eq, At, and_true, Nat.zero_add, Nat.reduceAdd, List.set_cons_zero, List.set_cons_succ] at o
                  go_wp2_with fail
                  obtain ⟨wf, hwf, hFf, hRf, hOf, hsf⟩ := put3r (Fr.two hF) (by simp <;> omega) hR (by omega) hO (fun e => by have := hO.ge _ e; omega) (by omega) (.int .i64 H) (.bool up) (.slice a9 n9 c9)
                  rw [← hwf]
                  clear hwf o hF hR hO
                  have hF := hFf
                  have o := hF.own; simp only [World.size_alloc, World.size_drew, World.size_setCell, List.mem_cons, List.not_mem_nil, or_false, forall_eq_or_imp, forall_eq, At, and_true, Nat.zero_add, Nat.reduceAdd, List.set_cons_zero, List.set_cons_succ] at o
                  refine bodyPost_ret (v := .agg #[.int .i64 H, .bool up, .slice a9 n9 c9]) ?_ rfl ?_
                  · simp [results, Tryd.results62, go_sem, o]
                  · exact ⟨_, _, _, K ++ [((f, b, lk, P, M), false)], rfl, hOf.gown' _ (by have := HN.out; omega) (by have := HN.out; omega), (by have := hnk.out; simp; omega), smg_snoc HKs.out (show SmG ((f, b, lk, P, M), false) from ⟨(by have := hP4.1; omega : P.length ≤ 100), (by omega : M.length ≤ 100)⟩), ⟨_, by omega, hRf⟩, hF.kp⟩
            · have d1 : (v4 == 1) = false := by simp [h1]
              go_wp2_with fail
              obtain ⟨wf, hwf, hFf, hRf, hOf, hsf⟩ := put3r (Fr.two hF) (by simp <;> omega) hR (by omega) hO (fun e => by have := hO.ge _ e; omega) (by omega) (.int .i64 H) (.bool up) (.slice au nk cu)
              rw [← hwf]
              clear hwf o hF hR hO
              have hF := hFf
              have o := hF.own; simp only [World.size_alloc, World.size_drew, World.size_setCell, List.mem_cons, List.not_mem_nil, or_false, forall_eq_or_imp, forall_eq, At, and_true, Nat.zero_add, Nat.reduceAdd, List.set_cons_zero, List.set_cons_succ] at o
              refine bodyPost_ret (v := .agg #[.int .i64 H, .bool up, .slice au nk cu]) ?_ rfl ?_
              · simp [results, Tryd.results62, go_sem, o]
              · exact ⟨_, _, _, K, rfl, hOf.gown' _ (by have := HN.out; omega) (by have := HN.out; omega), (by have := hnk.out; omega), HKs.out, ⟨_, by omega, hRf⟩, hF.kp⟩
end Go.Proofs.YtonojegnbcgnaaaDoor
