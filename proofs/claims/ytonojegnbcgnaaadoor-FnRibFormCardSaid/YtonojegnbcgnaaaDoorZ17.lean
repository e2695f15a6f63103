/- What a house told, copied (the model's own way). Ranges and entries compared; a slice compared with nil. What a house told: up, and where a range stands (the model's own way). -/
import Derived.Test.YtonojegnbcgnaaaDoorZ15
import Derived.Test.YtonojegnbcgnaaaDoorZ12
import Derived.Test.YtonojegnbcgnaaaDoorZ16
import Derived.Test.YtonojegnbcgnaaaDoorZ4
import Derived.Test.YtonojegnbcgnaaaDoorZ10
import Derived.Deep.RegionHeld3
import Derived.Test.YtonojegnbcgnaaaDoorZ3
import Derived.Laws.StructEq
import Derived.Lib.SliceRun
set_option linter.unusedSimpArgs false
set_option linter.unusedVariables false
namespace Go.Proofs.YtonojegnbcgnaaaDoor
open Go.RowKit

theorem GO2.put {δ β : Type} {S : Sh δ β} {E : TypeId} {w : World} {R B : Nat} {v : Value} {L : List β} (h : GO2 S E w R B v L) {p : Addr} (hv : v.ownBlock ≠ some p.block) (hB : p.block < B) (u : Value) : GO2 S E (w.setCell p u) R B v L := by
  obtain ⟨ds, h1, h2⟩ := h
  exact ⟨ds, h1.put' (E' := E) hv u, by simp only [World.size_setCell]; exact h2.far (grown_setC w p u) (fun g h _ e => by injection e with e; omega)⟩
theorem Fb.grownQ {W w w' : World} {L : List (Nat × List Value)} {row : Option Nat} (h : Fb W w L) (hg : w.grownBy w' row) (hW : ∀ g, row = some g → W.heap.size ≤ g) (hL : ∀ p ∈ L, row ≠ some p.1) : Fb W w' L :=
  ⟨⟨hg.os.trans h.kp.os, hg.tape.trans h.kp.tape, hg.output.trans h.kp.output, Nat.le_trans h.kp.size hg.size, fun i hi => (hg.block i (Nat.lt_of_lt_of_le hi h.kp.size) (fun e => by have := hW i e.symm; omega)).trans (h.kp.block i hi)⟩, fun p hp => by
    obtain ⟨h1, h2, h3⟩ := h.own p hp
    have hne : some p.1 ≠ row := fun e => hL p hp e.symm
    exact ⟨At.move (fun o v hv => (hg.cell_far ⟨p.1, o, none⟩ h3 hne).trans hv) (fun o v _ => hg.frozen_far ⟨p.1, o, none⟩ h3 hne) _ _ h1, h2, Nat.lt_of_lt_of_le h3 hg.size⟩⟩
theorem g2_snoc {E : TypeId} {w0 w w' : World} {R B : Nat} {v v' : Value} {ds : List GtD} {L : List Gt} {d : GtD} {s : Gt} (h : GRel shGt w0 B w0.heap.size v ds L) (K : Below w0.heap.size w0 w) (hO : Own E w' R v' 6 encGt (ds ++ [d])) (hg : w.grownBy w' v.ownBlock) (hf : Frsh w v v') (hd : shGt.rd w d s) (hs : ∀ u ∈ shGt.subs d, Apart u v ∧ ∀ g, u.ownBlock = some g → B ≤ g ∧ g < w.heap.size) : GO2 shGt E w' R B v' (L ++ [s]) :=
  ⟨_, hO, GRel.snoc h (Nat.le_refl _) K hg hf hd hs⟩
/-- Short paths, few marks. -/
def SmG (s : Gt) : Prop := s.1.2.2.2.1.length ≤ 100 ∧ s.1.2.2.2.2.length ≤ 100
theorem At.get {w : World} {b : Nat} : ∀ (vs : List Value) (o j : Nat) (v : Value), At w b o vs → vs[j]? = some v → w.cell? ⟨b, o + j, none⟩ = some v
  | [], _, _, _, _, h => by simp at h
  | x :: vs, o, 0, v, ⟨h1, _, _⟩, h => by simp at h; subst h; exact h1
  | x :: vs, o, j + 1, v, ⟨_, _, h3⟩, h => by
    have := At.get vs (o + 1) j v h3 (by simpa using h)
    rwa [show o + 1 + j = o + (j + 1) by omega] at this
theorem Fb.get {W w : World} {L : List (Nat × List Value)} (h : Fb W w L) {b : Nat} {vs : List Value} (hm : (b, vs) ∈ L) {j : Nat} {v : Value} (hj : vs[j]? = some v) : w.cell? ⟨b, j, none⟩ = some v := by
  have := At.get vs 0 j v (h.own _ hm).1 hj
  rwa [Nat.zero_add] at this
theorem Fb.turnB {W w : World} {x y z : Nat × List Value} (h : Fb W w [x, y, z]) : Fb W w [y, x, z] := h.sub fun p hp => by
  simp only [List.mem_cons, List.not_mem_nil, or_false] at hp ⊢
  rcases hp with h | h | h <;> simp [h]
/-- A struct of three cells written into one's own block. -/
theorem put3 {δ β : Type} {S : Sh δ β} {E : TypeId} {n R B : Nat} {W w : World} {z0 z1 z2 v : Value} {K : List β} {L : List (Nat × List Value)} (hF : Fb W w ((n, [z0, z1, z2]) :: L)) (hL : ∀ q ∈ L, q.1 ≠ n) (hO : GO2 S E w R B v K) (hR : n < R) (hB : n < B) (u0 u1 u2 : Value) :
    ∃ w', w' = ((w.setCell ⟨n, 0, none⟩ u0).setCell ⟨n, 1, none⟩ u1).setCell ⟨n, 2, none⟩ u2 ∧ Fb W w' ((n, [u0, u1, u2]) :: L) ∧ GO2 S E w' R B v K :=
  have hne : v.ownBlock ≠ some n := fun e => by have := hO.ge _ e; omega
  ⟨_, rfl, ((hF.set 0 u0 (by simp) hL).set 1 u1 (by simp) hL).set 2 u2 (by simp) hL, ((hO.put (p := ⟨n, 0, none⟩) hne hB u0).put (p := ⟨n, 1, none⟩) hne hB u1).put (p := ⟨n, 2, none⟩) hne hB u2⟩
set_option maxRecDepth 100000 in
set_option maxHeartbeats 4000000 in
theorem l21Copy_any (H : Int) (up : Bool) (v : Value) (L : List Gt) (w : World) (hv : Gts w v L) (hL : L.length ≤ 100) (hs : ∀ s ∈ L, SmG s) :
    Calls Tryd.prog 115 #[.agg #[.int .i64 H, .bool up, v]] w fun e w' => ∃ u, e = .returned (.agg #[.int .i64 H, .bool up, u]) ∧ GOwn shGt 48 w' w.heap.size u L ∧ Below w.heap.size w w' := by
  have HSm := Lib.hid hs
  obtain ⟨ao, n, cap, rfl, hn, hnc, hcap⟩ := GLs.sl hv
  have hn1 : n ≤ 100 := by have := hn.out; omega
  have HV := Lib.hid hv
  have hF := ((((Fb.start w).alloc [.int .i64 H, .bool up, .slice ao n cap] 44).alloc [.int .i64 0, .bool false, .slice none 0 0] 44).other (.cells #[] 48)).alloc [.int .i64 H, .bool up, .slice (some ⟨w.heap.size + 2, 0, none⟩) 0 0] 44
  have hO := (GO2.made (S := shGt) 48 ((w.alloc (.cells #[.int .i64 H, .bool up, .slice ao n cap] 44)).alloc (.cells #[.int .i64 0, .bool false, .slice none 0 0] 44)) (w.heap.size + 2) (w.heap.size + 4) (by simp)).alloc (.cells #[.int .i64 H, .bool up, .slice (some ⟨w.heap.size + 2, 0, none⟩) 0 0] 44)
  simp only [World.size_alloc] at hF hO
  obtain ⟨n1, hn1'⟩ : ∃ n, w.heap.size = n := ⟨_, rfl⟩
  rw [hn1'] at hF hO
  clear hv hs hL
  have o := hF.own; simp only [World.size_alloc, World.size_drew, World.size_setCell, List.mem_cons, List.not_mem_nil, or_false, forall_eq_or_imp, forall_eq, At, and_true, Nat.zero_add, Nat.reduceAdd, List.set_cons_zero, List.set_cons_succ] at o
  go_enter Tryd.func115, Tryd.ntmps115
  go_wp2
  go_loopw [4] (fun s4 wr => ∃ (k : Nat) (u : Value), k ≤ n ∧ s4 = .int .i64 k ∧ u.ownBlock ≠ some (n1 + 1 + 1 + 1) ∧ n1 + 4 ≤ wr.heap.size ∧ GO2 shGt 48 wr (n1 + 2) (n1 + 4) u (L.take k) ∧ Fb w wr [(n1 + 1 + 1 + 1, [.int .i64 H, .bool up, u]), (n1 + 1, [.int .i64 0, .bool false, .slice none 0 0]), (n1, [.int .i64 H, .bool up, .slice ao n cap])]) (fun s4 _ => n - (intOf s4).toNat)
  case atStart => exact ⟨0, _, Nat.zero_le _, rfl, (by simp [Value.ownBlock]), (by simp only [World.size_alloc]; omega), hO, hF⟩
  case round =>
    clear hF hO o
    obtain ⟨k, u, hk, rfl, hne, hsz, hO, hF⟩ := hrel
    obtain ⟨au, cu, rfl⟩ := hO.sl
    obtain ⟨nk, hnk⟩ : ∃ nk, Hid ((L.take k).length = nk) := ⟨_, rfl⟩
    have hnk1 : nk ≤ 100 := by have := hnk.out; simp at this; omega
    rw [hnk.out] at hO hF hne
    have o := hF.own; simp only [World.size_alloc, World.size_drew, World.size_setCell, List.mem_cons, List.not_mem_nil, or_false, forall_eq_or_imp, forall_eq, At, and_true, Nat.zero_add, Nat.reduceAdd, List.set_cons_zero, List.set_cons_succ] at o
    by_cases hlt : k < n
    · obtain ⟨b1, p1, rfl⟩ := GLs.adr HV.out (by omega)
      obtain ⟨s, hs⟩ := get_of hn.out hlt
      have HSS := Lib.hid (HSm.out s (List.mem_of_getElem? hs))
      have HT2 := Lib.hid (take_succ' hs)
      obtain ⟨⟨f, b, lk, P, M⟩, old⟩ := s
      obtain ⟨a1, m1, c1, a2, m2, c2, ⟨e0, e1, e2, e3, e4, e5⟩, i1, i2⟩ := Gts.at HV.out hs
      have E6 := Lib.hid (⟨e0, e1, e2, e3, e4, e5⟩ : w.cell? ⟨b1, p1 + k * 6, none⟩ = _ ∧ w.cell? ⟨b1, p1 + k * 6 + 1, none⟩ = _ ∧ w.cell? ⟨b1, p1 + k * 6 + 2, none⟩ = _ ∧ w.cell? ⟨b1, p1 + k * 6 + 3, none⟩ = _ ∧ w.cell? ⟨b1, p1 + k * 6 + 4, none⟩ = _ ∧ w.cell? ⟨b1, p1 + k * 6 + 5, none⟩ = _)
      have HI := Lib.hid (And.intro i1 i2)
      have x0 := hF.old e0
      have x1 := hF.old e1
      have x2 := hF.old e2
      have x3 := hF.old e3
      have x4 := hF.old e4
      have x5 := hF.old e5
      clear hs e0 e1 e2 e3 e4 e5 i1 i2
      go_upto_region 5 with (fail)
      refine wp_region_held_drew (S := fun w' => w'.cell? ⟨b1, p1 + k * 6, none⟩ = some (.int .i64 f) ∧ w'.cell? ⟨b1, p1 + k * 6 + 1, none⟩ = some (.int .i64 b) ∧ w'.cell? ⟨b1, p1 + k * 6 + 2, none⟩ = some (.slice a1 m1 c1) ∧ w'.cell? ⟨b1, p1 + k * 6 + 3, none⟩ = some (.int .i64 lk) ∧ w'.cell? ⟨b1, p1 + k * 6 + 4, none⟩ = some (.slice a2 m2 c2) ∧ w'.cell? ⟨b1, p1 + k * 6 + 5, none⟩ = some (.bool old) ∧ w'.cell? ⟨n1, 2, none⟩ = some (.slice (some ⟨b1, p1, none⟩) n cap)) (by kernel_rfl) ?hs (fun hHeld => ?_)
      case hs => exact ⟨Fb.old (by repeat (first | with_reducible exact hF | with_reducible apply Fb.drew | with_reducible apply Fb.other)) E6.out.1, Fb.old (by repeat (first | with_reducible exact hF | with_reducible apply Fb.drew | with_reducible apply Fb.other)) E6.out.2.1, Fb.old (by repeat (first | with_reducible exact hF | with_reducible apply Fb.drew | with_reducible apply Fb.other)) E6.out.2.2.1, Fb.old (by repeat (first | with_reducible exact hF | with_reducible apply Fb.drew | with_reducible apply Fb.other)) E6.out.2.2.2.1, Fb.old (by repeat (first | with_reducible exact hF | with_reducible apply Fb.drew | with_reducible apply Fb.other)) E6.out.2.2.2.2.1, Fb.old (by repeat (first | with_reducible exact hF | with_reducible apply Fb.drew | with_reducible apply Fb.other)) E6.out.2.2.2.2.2, Fb.get (by repeat (first | with_reducible exact hF | with_reducible apply Fb.drew | with_reducible apply Fb.other)) (List.mem_cons_of_mem _ (List.mem_cons_of_mem _ (List.mem_cons_self ..))) rfl⟩
      refine wpAnyH_take (i := 0) (oi := _) (v := ?_) (by simp only [List.getElem?_toArray, List.getElem?_cons_succ, List.getElem?_cons_zero]; rfl) (by kernel_rfl) (by kernel_rfl) (by kernel_rfl) (by exact fun _ _ _ h => h) (Or.inl ⟨by rfl, ?hy⟩) (by assumption) ?_
      case hy => (intro w hSw; (try dsimp only at hSw); go_simp; (try with_reducible rfl))
      (try simp only [Act.put, List.setIfInBounds_toArray, List.set_cons_zero, List.set_cons_succ])
      refine wpAnyH_take (i := 2) (oi := _) (v := ?_) (by simp only [List.getElem?_toArray, List.getElem?_cons_succ, List.getElem?_cons_zero]; rfl) (by kernel_rfl) (by kernel_rfl) (by kernel_rfl) (by exact fun _ _ _ h => h) (Or.inl ⟨by rfl, ?hy⟩) (by assumption) ?_
      case hy => (intro w hSw; (try dsimp only at hSw); go_simp; (try with_reducible rfl))
      (try simp only [Act.put, List.setIfInBounds_toArray, List.set_cons_zero, List.set_cons_succ])
      refine wpAnyH_take (i := 3) (oi := _) (v := ?_) (by simp only [List.getElem?_toArray, List.getElem?_cons_succ, List.getElem?_cons_zero]; rfl) (by kernel_rfl) (by kernel_rfl) (by kernel_rfl) (by exact fun _ _ _ h => h) (Or.inl ⟨by rfl, ?hy⟩) (by assumption) ?_
      case hy => (intro w hSw; (try dsimp only at hSw); go_simp; (try with_reducible rfl))
      (try simp only [Act.put, List.setIfInBounds_toArray, List.set_cons_zero, List.set_cons_succ])
      refine wpAnyH_take (i := 4) (oi := _) (v := ?_) (by simp only [List.getElem?_toArray, List.getElem?_cons_succ, List.getElem?_cons_zero]; rfl) (by kernel_rfl) (by kernel_rfl) (by kernel_rfl) (by exact fun _ _ _ h => h) (Or.inl ⟨by rfl, ?hy⟩) (by assumption) ?_
      case hy => (intro w hSw; (try dsimp only at hSw); go_simp; (try with_reducible rfl))
      (try simp only [Act.put, List.setIfInBounds_toArray, List.set_cons_zero, List.set_cons_succ])
      refine wpAnyH_take (i := 5) (oi := _) (v := ?_) (by simp only [List.getElem?_toArray, List.getElem?_cons_succ, List.getElem?_cons_zero]; rfl) (by kernel_rfl) (by kernel_rfl) (by kernel_rfl) (by exact fun _ _ _ h => h) (Or.inl ⟨by rfl, ?hy⟩) (by assumption) ?_
      case hy => (intro w hSw; (try dsimp only at hSw); go_simp; (try with_reducible rfl))
      (try simp only [Act.put, List.setIfInBounds_toArray, List.set_cons_zero, List.set_cons_succ])
      refine wpAnyH_take (i := 6) (oi := _) (v := ?_) (by simp only [List.getElem?_toArray, List.getElem?_cons_succ, List.getElem?_cons_zero]; rfl) (by kernel_rfl) (by kernel_rfl) (by kernel_rfl) (by exact fun _ _ _ h => h) (Or.inl ⟨by rfl, ?hy⟩) (by assumption) ?_
      case hy => (intro w hSw; (try dsimp only at hSw); go_simp; (try with_reducible rfl))
      (try simp only [Act.put, List.setIfInBounds_toArray, List.set_cons_zero, List.set_cons_succ])
      refine wpAnyH_take (i := 7) (oi := _) (v := ?_) (by simp only [List.getElem?_toArray, List.getElem?_cons_succ, List.getElem?_cons_zero]; rfl) (by kernel_rfl) (by kernel_rfl) (by kernel_rfl) (by exact fun _ _ _ h => h) (Or.inl ⟨by rfl, ?hy⟩) (by assumption) ?_
      case hy => (intro w hSw; (try dsimp only at hSw); go_simp; (try with_reducible rfl))
      (try simp only [Act.put, List.setIfInBounds_toArray, List.set_cons_zero, List.set_cons_succ])
      refine wpAnyH_take (i := 9) (oi := _) (v := ?_) (by simp only [List.getElem?_toArray, List.getElem?_cons_succ, List.getElem?_cons_zero]; rfl) (by kernel_rfl) (by kernel_rfl) (by kernel_rfl) (by exact fun _ _ _ h => h) (Or.inl ⟨by rfl, ?hy⟩) (by assumption) ?_
      case hy => (intro w hSw; (try dsimp only at hSw); go_simp; (try with_reducible rfl))
      (try simp only [Act.put, List.setIfInBounds_toArray, List.set_cons_zero, List.set_cons_succ])
      refine wpAnyH_take (i := 10) (oi := _) (v := ?_) (by simp only [List.getElem?_toArray, List.getElem?_cons_succ, List.getElem?_cons_zero]; rfl) (by kernel_rfl) (by kernel_rfl) (by kernel_rfl) (by exact fun _ _ _ h => h) (Or.inl ⟨by rfl, ?hy⟩) (by assumption) ?_
      case hy => (intro w hSw; (try dsimp only at hSw); go_simp; (try with_reducible rfl))
      (try simp only [Act.put, List.setIfInBounds_toArray, List.set_cons_zero, List.set_cons_succ])
      refine wpAnyH_take (i := 11) (oi := _) (v := ?_) (by simp only [List.getElem?_toArray, List.getElem?_cons_succ, List.getElem?_cons_zero]; rfl) (by kernel_rfl) (by kernel_rfl) (by kernel_rfl) (by exact fun _ _ _ h => h) (Or.inl ⟨by rfl, ?hy⟩) (by assumption) ?_
      case hy => (intro w hSw; (try dsimp only at hSw); go_simp; (try with_reducible rfl))
      (try simp only [Act.put, List.setIfInBounds_toArray, List.set_cons_zero, List.set_cons_succ])
      refine wpAnyH_take (i := 12) (oi := _) (v := ?_) (by simp only [List.getElem?_toArray, List.getElem?_cons_succ, List.getElem?_cons_zero]; rfl) (by kernel_rfl) (by kernel_rfl) (by kernel_rfl) (by exact fun _ _ _ h => h) (Or.inl ⟨by rfl, ?hy⟩) (by assumption) ?_
      case hy => (intro w hSw; (try dsimp only at hSw); go_simp; (try with_reducible rfl))
      (try simp only [Act.put, List.setIfInBounds_toArray, List.set_cons_zero, List.set_cons_succ])
      refine wpAnyH_take (i := 13) (oi := _) (v := ?_) (by simp only [List.getElem?_toArray, List.getElem?_cons_succ, List.getElem?_cons_zero]; rfl) (by kernel_rfl) (by kernel_rfl) (by kernel_rfl) (by exact fun _ _ _ h => h) (Or.inl ⟨by rfl, ?hy⟩) (by assumption) ?_
      case hy => (intro w hSw; (try dsimp only at hSw); go_simp; (try with_reducible rfl))
      (try simp only [Act.put, List.setIfInBounds_toArray, List.set_cons_zero, List.set_cons_succ])
      refine wpAnyH_take (i := 14) (oi := _) (v := ?_) (by simp only [List.getElem?_toArray, List.getElem?_cons_succ, List.getElem?_cons_zero]; rfl) (by kernel_rfl) (by kernel_rfl) (by kernel_rfl) (by exact fun _ _ _ h => h) (Or.inl ⟨by rfl, ?hy⟩) (by assumption) ?_
      case hy => (intro w hSw; (try dsimp only at hSw); go_simp; (try with_reducible rfl))
      (try simp only [Act.put, List.setIfInBounds_toArray, List.set_cons_zero, List.set_cons_succ])
      refine wpAnyH_ready (rs := [1, 8]) (by kernel_rfl) (by simp) ?_
      refine AllReadyH.cons (o := _) (by simp only [List.getElem?_toArray, List.getElem?_cons_succ, List.getElem?_cons_zero]; rfl) (fun KK hK => ?_) (AllReadyH.cons (o := _) (by simp only [List.getElem?_toArray, List.getElem?_cons_succ, List.getElem?_cons_zero]; rfl) (fun KK hK => ?_) AllReadyH.nil)
      · go_simp
        refine hK.out _ _ ?hs (fun hHeld => ?_)
        case hs => ((try dsimp only); exact ⟨Fb.old (by repeat (first | with_reducible exact hF | with_reducible apply Fb.drew | with_reducible apply Fb.other)) E6.out.1, Fb.old (by repeat (first | with_reducible exact hF | with_reducible apply Fb.drew | with_reducible apply Fb.other)) E6.out.2.1, Fb.old (by repeat (first | with_reducible exact hF | with_reducible apply Fb.drew | with_reducible apply Fb.other)) E6.out.2.2.1, Fb.old (by repeat (first | with_reducible exact hF | with_reducible apply Fb.drew | with_reducible apply Fb.other)) E6.out.2.2.2.1, Fb.old (by repeat (first | with_reducible exact hF | with_reducible apply Fb.drew | with_reducible apply Fb.other)) E6.out.2.2.2.2.1, Fb.old (by repeat (first | with_reducible exact hF | with_reducible apply Fb.drew | with_reducible apply Fb.other)) E6.out.2.2.2.2.2, Fb.get (by repeat (first | with_reducible exact hF | with_reducible apply Fb.drew | with_reducible apply Fb.other)) (List.mem_cons_of_mem _ (List.mem_cons_of_mem _ (List.mem_cons_self ..))) rfl⟩)
        clear hK KK
        (try simp only [Act.put, List.setIfInBounds_toArray, List.set_cons_zero, List.set_cons_succ])
        refine wpAnyH_ready (rs := [8]) (by kernel_rfl) (by simp) ?_
        refine AllReadyH.cons (o := _) (by simp only [List.getElem?_toArray, List.getElem?_cons_succ, List.getElem?_cons_zero]; rfl) (fun KK hK => ?_) AllReadyH.nil
        go_simp
        (go_at_call 40; go_must (refine (l4Copy_any f b lk _ _ P M _ (It.below HI.out.1 (Fb.kp (W := w) (by repeat (first | with_reducible exact hF | with_reducible apply Fb.drew | with_reducible apply Fb.other)))) (It.below HI.out.2 (Fb.kp (W := w) (by repeat (first | with_reducible exact hF | with_reducible apply Fb.drew | with_reducible apply Fb.other)))) (by have := HSS.out.1; dsimp only at this; omega) (by have := HSS.out.2; dsimp only at this; omega)).mono ?_); rintro e wy ⟨pv9, mv9, rfl, y1, y2, hby⟩; obtain ⟨oy1, cy1, rfl, -⟩ := y1.1.1.ex; obtain ⟨oy2, cy2, rfl, -⟩ := y2.1.1.ex; have hlo := hO.lt; have hsy := hby.size; simp only [World.size_drew] at hsy y1 y2; replace hF := Fb.below (by repeat (first | with_reducible exact hF | with_reducible apply Fb.drew | with_reducible apply Fb.other)) hby; replace hO := GO2.below (by repeat (first | with_reducible exact hO | with_reducible apply GO2.drew | with_reducible apply GO2.alloc)) hby; clear hby o; have o := hF.own; simp only [World.size_alloc, World.size_drew, World.size_setCell, List.mem_cons, List.not_mem_nil, or_false, forall_eq_or_imp, forall_eq, At, and_true, Nat.zero_add, Nat.reduceAdd, List.set_cons_zero, List.set_cons_succ] at o)
        (try go_wp2_with fail)
        refine hK.out _ _ ?hs (fun hHeld => ?_)
        case hs => ((try dsimp only); exact ⟨Fb.old (by repeat (first | with_reducible exact hF | with_reducible apply Fb.drew | with_reducible apply Fb.other)) E6.out.1, Fb.old (by repeat (first | with_reducible exact hF | with_reducible apply Fb.drew | with_reducible apply Fb.other)) E6.out.2.1, Fb.old (by repeat (first | with_reducible exact hF | with_reducible apply Fb.drew | with_reducible apply Fb.other)) E6.out.2.2.1, Fb.old (by repeat (first | with_reducible exact hF | with_reducible apply Fb.drew | with_reducible apply Fb.other)) E6.out.2.2.2.1, Fb.old (by repeat (first | with_reducible exact hF | with_reducible apply Fb.drew | with_reducible apply Fb.other)) E6.out.2.2.2.2.1, Fb.old (by repeat (first | with_reducible exact hF | with_reducible apply Fb.drew | with_reducible apply Fb.other)) E6.out.2.2.2.2.2, Fb.get (by repeat (first | with_reducible exact hF | with_reducible apply Fb.drew | with_reducible apply Fb.other)) (List.mem_cons_of_mem _ (List.mem_cons_of_mem _ (List.mem_cons_self ..))) rfl⟩)
        clear hK KK
        (try simp only [Act.put, List.setIfInBounds_toArray, List.set_cons_zero, List.set_cons_succ])
        refine wpAnyH_take (i := 15) (oi := _) (v := ?_) (by simp only [List.getElem?_toArray, List.getElem?_cons_succ, List.getElem?_cons_zero]; rfl) (by kernel_rfl) (by kernel_rfl) (by kernel_rfl) (by exact fun _ _ _ h => h) (Or.inl ⟨by rfl, ?hy⟩) (by assumption) ?_
        case hy => (intro w hSw; (try dsimp only at hSw); go_simp; (try with_reducible rfl))
        (try simp only [Act.put, List.setIfInBounds_toArray, List.set_cons_zero, List.set_cons_succ])
        refine wpAnyH_ready (rs := [16]) (by kernel_rfl) (by simp) ?_
        refine AllReadyH.cons (o := _) (by simp only [List.getElem?_toArray, List.getElem?_cons_succ, List.getElem?_cons_zero]; rfl) (fun KK hK => ?_) AllReadyH.nil
        go_simp
        refine hK.out _ _ ?hs (fun hHeld => ?_)
        case hs => ((try dsimp only); exact ⟨Fb.old (by repeat (first | with_reducible exact hF | with_reducible apply Fb.drew | with_reducible apply Fb.other)) E6.out.1, Fb.old (by repeat (first | with_reducible exact hF | with_reducible apply Fb.drew | with_reducible apply Fb.other)) E6.out.2.1, Fb.old (by repeat (first | with_reducible exact hF | with_reducible apply Fb.drew | with_reducible apply Fb.other)) E6.out.2.2.1, Fb.old (by repeat (first | with_reducible exact hF | with_reducible apply Fb.drew | with_reducible apply Fb.other)) E6.out.2.2.2.1, Fb.old (by repeat (first | with_reducible exact hF | with_reducible apply Fb.drew | with_reducible apply Fb.other)) E6.out.2.2.2.2.1, Fb.old (by repeat (first | with_reducible exact hF | with_reducible apply Fb.drew | with_reducible apply Fb.other)) E6.out.2.2.2.2.2, Fb.get (by repeat (first | with_reducible exact hF | with_reducible apply Fb.drew | with_reducible apply Fb.other)) (List.mem_cons_of_mem _ (List.mem_cons_of_mem _ (List.mem_cons_self ..))) rfl⟩)
        clear hK KK
        (try simp only [Act.put, List.setIfInBounds_toArray, List.set_cons_zero, List.set_cons_succ])
        refine wpAnyH_ready (rs := [17]) (by kernel_rfl) (by simp) ?_
        refine AllReadyH.cons (o := _) (by simp only [List.getElem?_toArray, List.getElem?_cons_succ, List.getElem?_cons_zero]; rfl) (fun KK hK => ?_) AllReadyH.nil
        (obtain ⟨ds, hOw, hG⟩ := hO; have hlG := hG.1; refine step_app (by rfl) _ _ 42 (by rfl) 48 (.agg #[.int .i64 0, .int .i64 0, .slice none 0 0, .int .i64 0, .slice none 0 0, .bool false]) 6 80 Tryd.underlying42 infoGt rfl (by decide) (by decide) (n1 + 2) encGt _ ds rfl (hOw.alloc _) (⟨f, b, lk, .slice oy1 P.length cy1, .slice oy2 M.length cy2, old⟩ : GtD) ⟨_, 0, none⟩ 1 rfl rfl (cells_new _ _ _) (by simp [encGt, Value.oneCell']) (by have := hnk.out; omega) (by simp only [World.size_alloc]; omega) ?_)
        intro v9 wz hO9 hg9 hb9 hf9
        have hO2 := g2_snoc (s := ((f, b, lk, P, M), old)) hG ((Below.refl _ _).alloc (Nat.le_refl _) _) hO9 hg9 hf9 (Sh.below (S := shGt) ⟨⟨rfl, rfl, rfl, rfl⟩, y1.1, y2.1⟩ ((Below.refl _ _).alloc (Nat.le_refl _) _)) (sub2 (fun g h => ⟨by have := y1.2 g h; omega, by have := y1.2 g h; simp only [World.size_alloc]; omega, fun e => by have := y1.2 g h; have := hlo g e; omega⟩) (fun g h => ⟨by have := y2.2 g h; omega, by have := y2.2 g h; simp only [World.size_alloc]; omega, fun e => by have := y2.2 g h; have := hlo g e; omega⟩))
        have hsz9 := hb9.size
        simp only [World.size_alloc] at hsz9
        skip
        replace hF := (hF.other (.cells #[.int .i64 f, .int .i64 b, .slice oy1 P.length cy1, .int .i64 lk, .slice oy2 M.length cy2, .bool old] 48)).grownQ hg9 (fun g hg => by have := hOw.ge g hg; omega) (fun p hp e => by have := hOw.ge _ e; simp only [List.mem_cons, List.not_mem_nil, or_false] at hp; rcases hp with rfl | rfl | rfl; exact hne e; simp at this <;> omega; simp at this <;> omega)
        have hne2 := frsh_off hf9 hne (by simp only [World.size_alloc]; omega)
        obtain ⟨a9, c9, rfl⟩ := hO2.sl
        obtain ⟨n9, hn9⟩ : ∃ n9, Hid ((L.take k ++ [((f, b, lk, P, M), old)]).length = n9) := ⟨_, rfl⟩
        rw [hn9.out] at hO2 hne2 ⊢
        clear hg9 hb9 hf9 hO9 hOw hG o hlG
        have o := hF.own; simp only [World.size_alloc, World.size_drew, World.size_setCell, List.mem_cons, List.not_mem_nil, or_false, forall_eq_or_imp, forall_eq, At, and_true, Nat.zero_add, Nat.reduceAdd, List.set_cons_zero, List.set_cons_succ] at o
        refine hK.out _ _ ?hs (fun hHeld => ?_)
        case hs => ((try dsimp only); exact ⟨Fb.old (by repeat (first | with_reducible exact hF | with_reducible apply Fb.drew | with_reducible apply Fb.other)) E6.out.1, Fb.old (by repeat (first | with_reducible exact hF | with_reducible apply Fb.drew | with_reducible apply Fb.other)) E6.out.2.1, Fb.old (by repeat (first | with_reducible exact hF | with_reducible apply Fb.drew | with_reducible apply Fb.other)) E6.out.2.2.1, Fb.old (by repeat (first | with_reducible exact hF | with_reducible apply Fb.drew | with_reducible apply Fb.other)) E6.out.2.2.2.1, Fb.old (by repeat (first | with_reducible exact hF | with_reducible apply Fb.drew | with_reducible apply Fb.other)) E6.out.2.2.2.2.1, Fb.old (by repeat (first | with_reducible exact hF | with_reducible apply Fb.drew | with_reducible apply Fb.other)) E6.out.2.2.2.2.2, Fb.get (by repeat (first | with_reducible exact hF | with_reducible apply Fb.drew | with_reducible apply Fb.other)) (List.mem_cons_of_mem _ (List.mem_cons_of_mem _ (List.mem_cons_self ..))) rfl⟩)
        clear hK KK
        (try simp only [Act.put, List.setIfInBounds_toArray, List.set_cons_zero, List.set_cons_succ])
        refine wpAnyH_take (i := 18) (oi := _) (v := ?_) (by simp only [List.getElem?_toArray, List.getElem?_cons_succ, List.getElem?_cons_zero]; rfl) (by kernel_rfl) (by kernel_rfl) (by kernel_rfl) (by exact fun _ _ _ h => h) (Or.inl ⟨by rfl, ?hy⟩) (by assumption) ?_
        case hy => (intro w hSw; (try dsimp only at hSw); go_simp; (try with_reducible rfl))
        (try simp only [Act.put, List.setIfInBounds_toArray, List.set_cons_zero, List.set_cons_succ])
        refine wpAnyH_ready (rs := [19]) (by kernel_rfl) (by simp) ?_
        refine AllReadyH.cons (o := _) (by simp only [List.getElem?_toArray, List.getElem?_cons_succ, List.getElem?_cons_zero]; rfl) (fun KK hK => ?_) AllReadyH.nil
        go_simp
        replace hF := hF.set 2 (.slice a9 n9 c9) (by simp) (by simp <;> omega)
        have hO := hO2.put (p := ⟨n1 + 1 + 1 + 1, 2, none⟩) hne2 (by dsimp only; omega) (.slice a9 n9 c9)
        refine hK.out _ _ ?hs (fun hHeld => ?_)
        case hs => ((try dsimp only); exact ⟨Fb.old (by repeat (first | with_reducible exact hF | with_reducible apply Fb.drew | with_reducible apply Fb.other)) E6.out.1, Fb.old (by repeat (first | with_reducible exact hF | with_reducible apply Fb.drew | with_reducible apply Fb.other)) E6.out.2.1, Fb.old (by repeat (first | with_reducible exact hF | with_reducible apply Fb.drew | with_reducible apply Fb.other)) E6.out.2.2.1, Fb.old (by repeat (first | with_reducible exact hF | with_reducible apply Fb.drew | with_reducible apply Fb.other)) E6.out.2.2.2.1, Fb.old (by repeat (first | with_reducible exact hF | with_reducible apply Fb.drew | with_reducible apply Fb.other)) E6.out.2.2.2.2.1, Fb.old (by repeat (first | with_reducible exact hF | with_reducible apply Fb.drew | with_reducible apply Fb.other)) E6.out.2.2.2.2.2, Fb.get (by repeat (first | with_reducible exact hF | with_reducible apply Fb.drew | with_reducible apply Fb.other)) (List.mem_cons_of_mem _ (List.mem_cons_of_mem _ (List.mem_cons_self ..))) rfl⟩)
        clear hK KK
        (try simp only [Act.put, List.setIfInBounds_toArray, List.set_cons_zero, List.set_cons_succ])
        refine wpAnyH_done (by kernel_rfl) ?_ _
        clear hO2 o
        have o := hF.own; simp only [World.size_alloc, World.size_drew, World.size_setCell, List.mem_cons, List.not_mem_nil, or_false, forall_eq_or_imp, forall_eq, At, and_true, Nat.zero_add, Nat.reduceAdd, List.set_cons_zero, List.set_cons_succ] at o
        go_wp2_with fail
        go_roundw
        case rel => exact ⟨k + 1, _, by omega, by go_num, hne2, by simp only [World.size_setCell]; omega, by rw [HT2.out]; exact hO, hF⟩
        case measure => simp [intOf]; omega
      ·
        go_simp
        (go_at_call 40; go_must (refine (l4Copy_any f b lk _ _ P M _ (It.below HI.out.1 (Fb.kp (W := w) (by repeat (first | with_reducible exact hF | with_reducible apply Fb.drew | with_reducible apply Fb.other)))) (It.below HI.out.2 (Fb.kp (W := w) (by repeat (first | with_reducible exact hF | with_reducible apply Fb.drew | with_reducible apply Fb.other)))) (by have := HSS.out.1; dsimp only at this; omega) (by have := HSS.out.2; dsimp only at this; omega)).mono ?_); rintro e wy ⟨pv9, mv9, rfl, y1, y2, hby⟩; obtain ⟨oy1, cy1, rfl, -⟩ := y1.1.1.ex; obtain ⟨oy2, cy2, rfl, -⟩ := y2.1.1.ex; have hlo := hO.lt; have hsy := hby.size; simp only [World.size_drew] at hsy y1 y2; replace hF := Fb.below (by repeat (first | with_reducible exact hF | with_reducible apply Fb.drew | with_reducible apply Fb.other)) hby; replace hO := GO2.below (by repeat (first | with_reducible exact hO | with_reducible apply GO2.drew | with_reducible apply GO2.alloc)) hby; clear hby o; have o := hF.own; simp only [World.size_alloc, World.size_drew, World.size_setCell, List.mem_cons, List.not_mem_nil, or_false, forall_eq_or_imp, forall_eq, At, and_true, Nat.zero_add, Nat.reduceAdd, List.set_cons_zero, List.set_cons_succ] at o)
        (try go_wp2_with fail)
        refine hK.out _ _ ?hs (fun hHeld => ?_)
        case hs => ((try dsimp only); exact ⟨Fb.old (by repeat (first | with_reducible exact hF | with_reducible apply Fb.drew | with_reducible apply Fb.other)) E6.out.1, Fb.old (by repeat (first | with_reducible exact hF | with_reducible apply Fb.drew | with_reducible apply Fb.other)) E6.out.2.1, Fb.old (by repeat (first | with_reducible exact hF | with_reducible apply Fb.drew | with_reducible apply Fb.other)) E6.out.2.2.1, Fb.old (by repeat (first | with_reducible exact hF | with_reducible apply Fb.drew | with_reducible apply Fb.other)) E6.out.2.2.2.1, Fb.old (by repeat (first | with_reducible exact hF | with_reducible apply Fb.drew | with_reducible apply Fb.other)) E6.out.2.2.2.2.1, Fb.old (by repeat (first | with_reducible exact hF | with_reducible apply Fb.drew | with_reducible apply Fb.other)) E6.out.2.2.2.2.2, Fb.get (by repeat (first | with_reducible exact hF | with_reducible apply Fb.drew | with_reducible apply Fb.other)) (List.mem_cons_of_mem _ (List.mem_cons_of_mem _ (List.mem_cons_self ..))) rfl⟩)
        clear hK KK
        (try simp only [Act.put, List.setIfInBounds_toArray, List.set_cons_zero, List.set_cons_succ])
        refine wpAnyH_take (i := 15) (oi := _) (v := ?_) (by simp only [List.getElem?_toArray, List.getElem?_cons_succ, List.getElem?_cons_zero]; rfl) (by kernel_rfl) (by kernel_rfl) (by kernel_rfl) (by exact fun _ _ _ h => h) (Or.inl ⟨by rfl, ?hy⟩) (by assumption) ?_
        case hy => (intro w hSw; (try dsimp only at hSw); go_simp; (try with_reducible rfl))
        (try simp only [Act.put, List.setIfInBounds_toArray, List.set_cons_zero, List.set_cons_succ])
        refine wpAnyH_ready (rs := [1, 16]) (by kernel_rfl) (by simp) ?_
        refine AllReadyH.cons (o := _) (by simp only [List.getElem?_toArray, List.getElem?_cons_succ, List.getElem?_cons_zero]; rfl) (fun KK hK => ?_) (AllReadyH.cons (o := _) (by simp only [List.getElem?_toArray, List.getElem?_cons_succ, List.getElem?_cons_zero]; rfl) (fun KK hK => ?_) AllReadyH.nil)
        · go_simp
          refine hK.out _ _ ?hs (fun hHeld => ?_)
          case hs => ((try dsimp only); exact ⟨Fb.old (by repeat (first | with_reducible exact hF | with_reducible apply Fb.drew | with_reducible apply Fb.other)) E6.out.1, Fb.old (by repeat (first | with_reducible exact hF | with_reducible apply Fb.drew | with_reducible apply Fb.other)) E6.out.2.1, Fb.old (by repeat (first | with_reducible exact hF | with_reducible apply Fb.drew | with_reducible apply Fb.other)) E6.out.2.2.1, Fb.old (by repeat (first | with_reducible exact hF | with_reducible apply Fb.drew | with_reducible apply Fb.other)) E6.out.2.2.2.1, Fb.old (by repeat (first | with_reducible exact hF | with_reducible apply Fb.drew | with_reducible apply Fb.other)) E6.out.2.2.2.2.1, Fb.old (by repeat (first | with_reducible exact hF | with_reducible apply Fb.drew | with_reducible apply Fb.other)) E6.out.2.2.2.2.2, Fb.get (by repeat (first | with_reducible exact hF | with_reducible apply Fb.drew | with_reducible apply Fb.other)) (List.mem_cons_of_mem _ (List.mem_cons_of_mem _ (List.mem_cons_self ..))) rfl⟩)
          clear hK KK
          (try simp only [Act.put, List.setIfInBounds_toArray, List.set_cons_zero, List.set_cons_succ])
          refine wpAnyH_ready (rs := [16]) (by kernel_rfl) (by simp) ?_
          refine AllReadyH.cons (o := _) (by simp only [List.getElem?_toArray, List.getElem?_cons_succ, List.getElem?_cons_zero]; rfl) (fun KK hK => ?_) AllReadyH.nil
          go_simp
          refine hK.out _ _ ?hs (fun hHeld => ?_)
          case hs => ((try dsimp only); exact ⟨Fb.old (by repeat (first | with_reducible exact hF | with_reducible apply Fb.drew | with_reducible apply Fb.other)) E6.out.1, Fb.old (by repeat (first | with_reducible exact hF | with_reducible apply Fb.drew | with_reducible apply Fb.other)) E6.out.2.1, Fb.old (by repeat (first | with_reducible exact hF | with_reducible apply Fb.drew | with_reducible apply Fb.other)) E6.out.2.2.1, Fb.old (by repeat (first | with_reducible exact hF | with_reducible apply Fb.drew | with_reducible apply Fb.other)) E6.out.2.2.2.1, Fb.old (by repeat (first | with_reducible exact hF | with_reducible apply Fb.drew | with_reducible apply Fb.other)) E6.out.2.2.2.2.1, Fb.old (by repeat (first | with_reducible exact hF | with_reducible apply Fb.drew | with_reducible apply Fb.other)) E6.out.2.2.2.2.2, Fb.get (by repeat (first | with_reducible exact hF | with_reducible apply Fb.drew | with_reducible apply Fb.other)) (List.mem_cons_of_mem _ (List.mem_cons_of_mem _ (List.mem_cons_self ..))) rfl⟩)
          clear hK KK
          (try simp only [Act.put, List.setIfInBounds_toArray, List.set_cons_zero, List.set_cons_succ])
          refine wpAnyH_ready (rs := [17]) (by kernel_rfl) (by simp) ?_
          refine AllReadyH.cons (o := _) (by simp only [List.getElem?_toArray, List.getElem?_cons_succ, List.getElem?_cons_zero]; rfl) (fun KK hK => ?_) AllReadyH.nil
          (obtain ⟨ds, hOw, hG⟩ := hO; have hlG := hG.1; refine step_app (by rfl) _ _ 42 (by rfl) 48 (.agg #[.int .i64 0, .int .i64 0, .slice none 0 0, .int .i64 0, .slice none 0 0, .bool false]) 6 80 Tryd.underlying42 infoGt rfl (by decide) (by decide) (n1 + 2) encGt _ ds rfl (hOw.alloc _) (⟨f, b, lk, .slice oy1 P.length cy1, .slice oy2 M.length cy2, old⟩ : GtD) ⟨_, 0, none⟩ 1 rfl rfl (cells_new _ _ _) (by simp [encGt, Value.oneCell']) (by have := hnk.out; omega) (by simp only [World.size_alloc]; omega) ?_)
          intro v9 wz hO9 hg9 hb9 hf9
          have hO2 := g2_snoc (s := ((f, b, lk, P, M), old)) hG ((Below.refl _ _).alloc (Nat.le_refl _) _) hO9 hg9 hf9 (Sh.below (S := shGt) ⟨⟨rfl, rfl, rfl, rfl⟩, y1.1, y2.1⟩ ((Below.refl _ _).alloc (Nat.le_refl _) _)) (sub2 (fun g h => ⟨by have := y1.2 g h; omega, by have := y1.2 g h; simp only [World.size_alloc]; omega, fun e => by have := y1.2 g h; have := hlo g e; omega⟩) (fun g h => ⟨by have := y2.2 g h; omega, by have := y2.2 g h; simp only [World.size_alloc]; omega, fun e => by have := y2.2 g h; have := hlo g e; omega⟩))
          have hsz9 := hb9.size
          simp only [World.size_alloc] at hsz9
          skip
          replace hF := (hF.other (.cells #[.int .i64 f, .int .i64 b, .slice oy1 P.length cy1, .int .i64 lk, .slice oy2 M.length cy2, .bool old] 48)).grownQ hg9 (fun g hg => by have := hOw.ge g hg; omega) (fun p hp e => by have := hOw.ge _ e; simp only [List.mem_cons, List.not_mem_nil, or_false] at hp; rcases hp with rfl | rfl | rfl; exact hne e; simp at this <;> omega; simp at this <;> omega)
          have hne2 := frsh_off hf9 hne (by simp only [World.size_alloc]; omega)
          obtain ⟨a9, c9, rfl⟩ := hO2.sl
          obtain ⟨n9, hn9⟩ : ∃ n9, Hid ((L.take k ++ [((f, b, lk, P, M), old)]).length = n9) := ⟨_, rfl⟩
          rw [hn9.out] at hO2 hne2 ⊢
          clear hg9 hb9 hf9 hO9 hOw hG o hlG
          have o := hF.own; simp only [World.size_alloc, World.size_drew, World.size_setCell, List.mem_cons, List.not_mem_nil, or_false, forall_eq_or_imp, forall_eq, At, and_true, Nat.zero_add, Nat.reduceAdd, List.set_cons_zero, List.set_cons_succ] at o
          refine hK.out _ _ ?hs (fun hHeld => ?_)
          case hs => ((try dsimp only); exact ⟨Fb.old (by repeat (first | with_reducible exact hF | with_reducible apply Fb.drew | with_reducible apply Fb.other)) E6.out.1, Fb.old (by repeat (first | with_reducible exact hF | with_reducible apply Fb.drew | with_reducible apply Fb.other)) E6.out.2.1, Fb.old (by repeat (first | with_reducible exact hF | with_reducible apply Fb.drew | with_reducible apply Fb.other)) E6.out.2.2.1, Fb.old (by repeat (first | with_reducible exact hF | with_reducible apply Fb.drew | with_reducible apply Fb.other)) E6.out.2.2.2.1, Fb.old (by repeat (first | with_reducible exact hF | with_reducible apply Fb.drew | with_reducible apply Fb.other)) E6.out.2.2.2.2.1, Fb.old (by repeat (first | with_reducible exact hF | with_reducible apply Fb.drew | with_reducible apply Fb.other)) E6.out.2.2.2.2.2, Fb.get (by repeat (first | with_reducible exact hF | with_reducible apply Fb.drew | with_reducible apply Fb.other)) (List.mem_cons_of_mem _ (List.mem_cons_of_mem _ (List.mem_cons_self ..))) rfl⟩)
          clear hK KK
          (try simp only [Act.put, List.setIfInBounds_toArray, List.set_cons_zero, List.set_cons_succ])
          refine wpAnyH_take (i := 18) (oi := _) (v := ?_) (by simp only [List.getElem?_toArray, List.getElem?_cons_succ, List.getElem?_cons_zero]; rfl) (by kernel_rfl) (by kernel_rfl) (by kernel_rfl) (by exact fun _ _ _ h => h) (Or.inl ⟨by rfl, ?hy⟩) (by assumption) ?_
          case hy => (intro w hSw; (try dsimp only at hSw); go_simp; (try with_reducible rfl))
          (try simp only [Act.put, List.setIfInBounds_toArray, List.set_cons_zero, List.set_cons_succ])
          refine wpAnyH_ready (rs := [19]) (by kernel_rfl) (by simp) ?_
          refine AllReadyH.cons (o := _) (by simp only [List.getElem?_toArray, List.getElem?_cons_succ, List.getElem?_cons_zero]; rfl) (fun KK hK => ?_) AllReadyH.nil
          go_simp
          replace hF := hF.set 2 (.slice a9 n9 c9) (by simp) (by simp <;> omega)
          have hO := hO2.put (p := ⟨n1 + 1 + 1 + 1, 2, none⟩) hne2 (by dsimp only; omega) (.slice a9 n9 c9)
          refine hK.out _ _ ?hs (fun hHeld => ?_)
          case hs => ((try dsimp only); exact ⟨Fb.old (by repeat (first | with_reducible exact hF | with_reducible apply Fb.drew | with_reducible apply Fb.other)) E6.out.1, Fb.old (by repeat (first | with_reducible exact hF | with_reducible apply Fb.drew | with_reducible apply Fb.other)) E6.out.2.1, Fb.old (by repeat (first | with_reducible exact hF | with_reducible apply Fb.drew | with_reducible apply Fb.other)) E6.out.2.2.1, Fb.old (by repeat (first | with_reducible exact hF | with_reducible apply Fb.drew | with_reducible apply Fb.other)) E6.out.2.2.2.1, Fb.old (by repeat (first | with_reducible exact hF | with_reducible apply Fb.drew | with_reducible apply Fb.other)) E6.out.2.2.2.2.1, Fb.old (by repeat (first | with_reducible exact hF | with_reducible apply Fb.drew | with_reducible apply Fb.other)) E6.out.2.2.2.2.2, Fb.get (by repeat (first | with_reducible exact hF | with_reducible apply Fb.drew | with_reducible apply Fb.other)) (List.mem_cons_of_mem _ (List.mem_cons_of_mem _ (List.mem_cons_self ..))) rfl⟩)
          clear hK KK
          (try simp only [Act.put, List.setIfInBounds_toArray, List.set_cons_zero, List.set_cons_succ])
          refine wpAnyH_done (by kernel_rfl) ?_ _
          clear hO2 o
          have o := hF.own; simp only [World.size_alloc, World.size_drew, World.size_setCell, List.mem_cons, List.not_mem_nil, or_false, forall_eq_or_imp, forall_eq, At, and_true, Nat.zero_add, Nat.reduceAdd, List.set_cons_zero, List.set_cons_succ] at o
          go_wp2_with fail
          go_roundw
          case rel => exact ⟨k + 1, _, by omega, by go_num, hne2, by simp only [World.size_setCell]; omega, by rw [HT2.out]; exact hO, hF⟩
          case measure => simp [intOf]; omega
        · go_simp
          refine hK.out _ _ ?hs (fun hHeld => ?_)
          case hs => ((try dsimp only); exact ⟨Fb.old (by repeat (first | with_reducible exact hF | with_reducible apply Fb.drew | with_reducible apply Fb.other)) E6.out.1, Fb.old (by repeat (first | with_reducible exact hF | with_reducible apply Fb.drew | with_reducible apply Fb.other)) E6.out.2.1, Fb.old (by repeat (first | with_reducible exact hF | with_reducible apply Fb.drew | with_reducible apply Fb.other)) E6.out.2.2.1, Fb.old (by repeat (first | with_reducible exact hF | with_reducible apply Fb.drew | with_reducible apply Fb.other)) E6.out.2.2.2.1, Fb.old (by repeat (first | with_reducible exact hF | with_reducible apply Fb.drew | with_reducible apply Fb.other)) E6.out.2.2.2.2.1, Fb.old (by repeat (first | with_reducible exact hF | with_reducible apply Fb.drew | with_reducible apply Fb.other)) E6.out.2.2.2.2.2, Fb.get (by repeat (first | with_reducible exact hF | with_reducible apply Fb.drew | with_reducible apply Fb.other)) (List.mem_cons_of_mem _ (List.mem_cons_of_mem _ (List.mem_cons_self ..))) rfl⟩)
          clear hK KK
          (try simp only [Act.put, List.setIfInBounds_toArray, List.set_cons_zero, List.set_cons_succ])
          refine wpAnyH_ready (rs := [1]) (by kernel_rfl) (by simp) ?_
          refine AllReadyH.cons (o := _) (by simp only [List.getElem?_toArray, List.getElem?_cons_succ, List.getElem?_cons_zero]; rfl) (fun KK hK => ?_) AllReadyH.nil
          go_simp
          refine hK.out _ _ ?hs (fun hHeld => ?_)
          case hs => ((try dsimp only); exact ⟨Fb.old (by repeat (first | with_reducible exact hF | with_reducible apply Fb.drew | with_reducible apply Fb.other)) E6.out.1, Fb.old (by repeat (first | with_reducible exact hF | with_reducible apply Fb.drew | with_reducible apply Fb.other)) E6.out.2.1, Fb.old (by repeat (first | with_reducible exact hF | with_reducible apply Fb.drew | with_reducible apply Fb.other)) E6.out.2.2.1, Fb.old (by repeat (first | with_reducible exact hF | with_reducible apply Fb.drew | with_reducible apply Fb.other)) E6.out.2.2.2.1, Fb.old (by repeat (first | with_reducible exact hF | with_reducible apply Fb.drew | with_reducible apply Fb.other)) E6.out.2.2.2.2.1, Fb.old (by repeat (first | with_reducible exact hF | with_reducible apply Fb.drew | with_reducible apply Fb.other)) E6.out.2.2.2.2.2, Fb.get (by repeat (first | with_reducible exact hF | with_reducible apply Fb.drew | with_reducible apply Fb.other)) (List.mem_cons_of_mem _ (List.mem_cons_of_mem _ (List.mem_cons_self ..))) rfl⟩)
          clear hK KK
          (try simp only [Act.put, List.setIfInBounds_toArray, List.set_cons_zero, List.set_cons_succ])
          refine wpAnyH_ready (rs := [17]) (by kernel_rfl) (by simp) ?_
          refine AllReadyH.cons (o := _) (by simp only [List.getElem?_toArray, List.getElem?_cons_succ, List.getElem?_cons_zero]; rfl) (fun KK hK => ?_) AllReadyH.nil
          (obtain ⟨ds, hOw, hG⟩ := hO; have hlG := hG.1; refine step_app (by rfl) _ _ 42 (by rfl) 48 (.agg #[.int .i64 0, .int .i64 0, .slice none 0 0, .int .i64 0, .slice none 0 0, .bool false]) 6 80 Tryd.underlying42 infoGt rfl (by decide) (by decide) (n1 + 2) encGt _ ds rfl (hOw.alloc _) (⟨f, b, lk, .slice oy1 P.length cy1, .slice oy2 M.length cy2, old⟩ : GtD) ⟨_, 0, none⟩ 1 rfl rfl (cells_new _ _ _) (by simp [encGt, Value.oneCell']) (by have := hnk.out; omega) (by simp only [World.size_alloc]; omega) ?_)
          intro v9 wz hO9 hg9 hb9 hf9
          have hO2 := g2_snoc (s := ((f, b, lk, P, M), old)) hG ((Below.refl _ _).alloc (Nat.le_refl _) _) hO9 hg9 hf9 (Sh.below (S := shGt) ⟨⟨rfl, rfl, rfl, rfl⟩, y1.1, y2.1⟩ ((Below.refl _ _).alloc (Nat.le_refl _) _)) (sub2 (fun g h => ⟨by have := y1.2 g h; omega, by have := y1.2 g h; simp only [World.size_alloc]; omega, fun e => by have := y1.2 g h; have := hlo g e; omega⟩) (fun g h => ⟨by have := y2.2 g h; omega, by have := y2.2 g h; simp only [World.size_alloc]; omega, fun e => by have := y2.2 g h; have := hlo g e; omega⟩))
          have hsz9 := hb9.size
          simp only [World.size_alloc] at hsz9
          skip
          replace hF := (hF.other (.cells #[.int .i64 f, .int .i64 b, .slice oy1 P.length cy1, .int .i64 lk, .slice oy2 M.length cy2, .bool old] 48)).grownQ hg9 (fun g hg => by have := hOw.ge g hg; omega) (fun p hp e => by have := hOw.ge _ e; simp only [List.mem_cons, List.not_mem_nil, or_false] at hp; rcases hp with rfl | rfl | rfl; exact hne e; simp at this <;> omega; simp at this <;> omega)
          have hne2 := frsh_off hf9 hne (by simp only [World.size_alloc]; omega)
          obtain ⟨a9, c9, rfl⟩ := hO2.sl
          obtain ⟨n9, hn9⟩ : ∃ n9, Hid ((L.take k ++ [((f, b, lk, P, M), old)]).length = n9) := ⟨_, rfl⟩
          rw [hn9.out] at hO2 hne2 ⊢
          clear hg9 hb9 hf9 hO9 hOw hG o hlG
          have o := hF.own; simp only [World.size_alloc, World.size_drew, World.size_setCell, List.mem_cons, List.not_mem_nil, or_false, forall_eq_or_imp, forall_eq, At, and_true, Nat.zero_add, Nat.reduceAdd, List.set_cons_zero, List.set_cons_succ] at o
          refine hK.out _ _ ?hs (fun hHeld => ?_)
          case hs => ((try dsimp only); exact ⟨Fb.old (by repeat (first | with_reducible exact hF | with_reducible apply Fb.drew | with_reducible apply Fb.other)) E6.out.1, Fb.old (by repeat (first | with_reducible exact hF | with_reducible apply Fb.drew | with_reducible apply Fb.other)) E6.out.2.1, Fb.old (by repeat (first | with_reducible exact hF | with_reducible apply Fb.drew | with_reducible apply Fb.other)) E6.out.2.2.1, Fb.old (by repeat (first | with_reducible exact hF | with_reducible apply Fb.drew | with_reducible apply Fb.other)) E6.out.2.2.2.1, Fb.old (by repeat (first | with_reducible exact hF | with_reducible apply Fb.drew | with_reducible apply Fb.other)) E6.out.2.2.2.2.1, Fb.old (by repeat (first | with_reducible exact hF | with_reducible apply Fb.drew | with_reducible apply Fb.other)) E6.out.2.2.2.2.2, Fb.get (by repeat (first | with_reducible exact hF | with_reducible apply Fb.drew | with_reducible apply Fb.other)) (List.mem_cons_of_mem _ (List.mem_cons_of_mem _ (List.mem_cons_self ..))) rfl⟩)
          clear hK KK
          (try simp only [Act.put, List.setIfInBounds_toArray, List.set_cons_zero, List.set_cons_succ])
          refine wpAnyH_take (i := 18) (oi := _) (v := ?_) (by simp only [List.getElem?_toArray, List.getElem?_cons_succ, List.getElem?_cons_zero]; rfl) (by kernel_rfl) (by kernel_rfl) (by kernel_rfl) (by exact fun _ _ _ h => h) (Or.inl ⟨by rfl, ?hy⟩) (by assumption) ?_
          case hy => (intro w hSw; (try dsimp only at hSw); go_simp; (try with_reducible rfl))
          (try simp only [Act.put, List.setIfInBounds_toArray, List.set_cons_zero, List.set_cons_succ])
          refine wpAnyH_ready (rs := [19]) (by kernel_rfl) (by simp) ?_
          refine AllReadyH.cons (o := _) (by simp only [List.getElem?_toArray, List.getElem?_cons_succ, List.getElem?_cons_zero]; rfl) (fun KK hK => ?_) AllReadyH.nil
          go_simp
          replace hF := hF.set 2 (.slice a9 n9 c9) (by simp) (by simp <;> omega)
          have hO := hO2.put (p := ⟨n1 + 1 + 1 + 1, 2, none⟩) hne2 (by dsimp only; omega) (.slice a9 n9 c9)
          refine hK.out _ _ ?hs (fun hHeld => ?_)
          case hs => ((try dsimp only); exact ⟨Fb.old (by repeat (first | with_reducible exact hF | with_reducible apply Fb.drew | with_reducible apply Fb.other)) E6.out.1, Fb.old (by repeat (first | with_reducible exact hF | with_reducible apply Fb.drew | with_reducible apply Fb.other)) E6.out.2.1, Fb.old (by repeat (first | with_reducible exact hF | with_reducible apply Fb.drew | with_reducible apply Fb.other)) E6.out.2.2.1, Fb.old (by repeat (first | with_reducible exact hF | with_reducible apply Fb.drew | with_reducible apply Fb.other)) E6.out.2.2.2.1, Fb.old (by repeat (first | with_reducible exact hF | with_reducible apply Fb.drew | with_reducible apply Fb.other)) E6.out.2.2.2.2.1, Fb.old (by repeat (first | with_reducible exact hF | with_reducible apply Fb.drew | with_reducible apply Fb.other)) E6.out.2.2.2.2.2, Fb.get (by repeat (first | with_reducible exact hF | with_reducible apply Fb.drew | with_reducible apply Fb.other)) (List.mem_cons_of_mem _ (List.mem_cons_of_mem _ (List.mem_cons_self ..))) rfl⟩)
          clear hK KK
          (try simp only [Act.put, List.setIfInBounds_toArray, List.set_cons_zero, List.set_cons_succ])
          refine wpAnyH_done (by kernel_rfl) ?_ _
          clear hO2 o
          have o := hF.own; simp only [World.size_alloc, World.size_drew, World.size_setCell, List.mem_cons, List.not_mem_nil, or_false, forall_eq_or_imp, forall_eq, At, and_true, Nat.zero_add, Nat.reduceAdd, List.set_cons_zero, List.set_cons_succ] at o
          go_wp2_with fail
          go_roundw
          case rel => exact ⟨k + 1, _, by omega, by go_num, hne2, by simp only [World.size_setCell]; omega, by rw [HT2.out]; exact hO, hF⟩
          case measure => simp [intOf]; omega
    · have hkn : k = n := by omega
      subst hkn
      have htl : L.take k = L := List.take_of_length_le (by have := hn.out; omega)
      rw [htl] at hO
      have HN := Lib.hid hn1'
      have hF2 := hF.turnB
      clear hF o hn1'
      have hF := hF2
      clear hF2
      have o := hF.own; simp only [World.size_alloc, World.size_drew, World.size_setCell, List.mem_cons, List.not_mem_nil, or_false, forall_eq_or_imp, forall_eq, At, and_true, Nat.zero_add, Nat.reduceAdd, List.set_cons_zero, List.set_cons_succ] at o
      go_wp2_with fail
      obtain ⟨wz, hwz, hG, hOz⟩ := put3 hF (by simp; omega) hO (by omega) (by omega) (.int .i64 H) (.bool up) (.slice au nk cu)
      rw [← hwz]
      clear hwz o hF
      have hF := hG
      have o := hF.own; simp only [World.size_alloc, World.size_drew, World.size_setCell, List.mem_cons, List.not_mem_nil, or_false, forall_eq_or_imp, forall_eq, At, and_true, Nat.zero_add, Nat.reduceAdd, List.set_cons_zero, List.set_cons_succ] at o
      refine bodyPost_ret (v := .agg #[.int .i64 H, .bool up, .slice au nk cu]) ?_ rfl ?_
      · simp [results, Tryd.results115, go_sem, o]
      · exact ⟨_, rfl, ⟨_, hOz.choose_spec.1.base (by have := HN.out; omega), hOz.choose_spec.2.mono (by have := HN.out; omega) (Nat.le_refl _)⟩, hG.kp⟩
end Go.Proofs.YtonojegnbcgnaaaDoor
set_option linter.unusedSimpArgs false
set_option linter.unusedVariables false
namespace Go.Proofs.YtonojegnbcgnaaaDoor
open Go.RowKit

theorem rng_fields : (Tryd.prog.fieldsOf 24).toList = [⟨ "First", 3, 0, false, "", "", 0⟩, ⟨ "Bits", 3, 1, false, "", "", 8⟩] := by kernel_rfl
theorem rng_eq (f b g c : Int) (d : Nat) (w : World) : (Op.equalIn (d + 2) 24 (.agg #[.int .i64 f, .int .i64 b]) (.agg #[.int .i64 g, .int .i64 c])).run Tryd.prog w = .ok (f == g && b == c) w := by
  rw [run_equalIn_agg w (d + 1) 24 _ _ (by kernel_rfl) (by kernel_rfl), rng_fields]
  cases h1 : (f == g) <;> cases h2 : (b == c) <;> simp [Op.eqFields, go_sem, h1, h2]
theorem rng_neq (f b g c : Int) (w : World) : (binOp .neq 24 (.agg #[.int .i64 f, .int .i64 b]) (.agg #[.int .i64 g, .int .i64 c])).run Tryd.prog w = .ok (.bool (!(f == g && b == c))) w := by
  rw [run_neq_struct, rng_eq f b g c 9998]; rfl
theorem rng_eql (f b g c : Int) (w : World) : (binOp .eql 24 (.agg #[.int .i64 f, .int .i64 b]) (.agg #[.int .i64 g, .int .i64 c])).run Tryd.prog w = .ok (.bool (f == g && b == c)) w := by
  rw [run_eql_struct, rng_eq f b g c 9998]; rfl
end Go.Proofs.YtonojegnbcgnaaaDoor
set_option linter.unusedSimpArgs false
set_option linter.unusedVariables false
namespace Go.Proofs.YtonojegnbcgnaaaDoor
open Go.RowKit

section
variable {δ β : Type} {S : Sh δ β} {E : TypeId} {w w' : World} {B U : Nat} {v : Value} {L : List β}
/-- One's own row, all of it and all that it holds in the blocks from B on and below U. -/
def GO3 (S : Sh δ β) (E : TypeId) (w : World) (B U : Nat) (v : Value) (L : List β) : Prop := ∃ ds, Own E w B v S.sz S.enc ds ∧ GRel S w B U v ds L ∧ ∀ g, v.ownBlock = some g → g < U
theorem GOwn.go3 (h : GOwn S E w B v L) : GO3 S E w B w.heap.size v L := by
  obtain ⟨ds, h1, h2⟩ := h; exact ⟨ds, h1, h2, h1.lt⟩
theorem GO3.below (h : GO3 S E w B U v L) (K : Below w.heap.size w w') : GO3 S E w' B U v L := by
  obtain ⟨ds, h1, h2, h3⟩ := h; exact ⟨ds, h1.below K, h2.below K, h3⟩
theorem GO3.alloc (h : GO3 S E w B U v L) (o : Obj) : GO3 S E (w.alloc o) B U v L := h.below ((Below.refl _ _).alloc (Nat.le_refl _) _)
theorem GO3.gown (h : GO3 S E w B U v L) (hU : U ≤ w.heap.size) {B' : Nat} (hB : B' ≤ B) : GOwn S E w B' v L := by
  obtain ⟨ds, h1, h2, h3⟩ := h; exact ⟨ds, h1.base hB, h2.mono hB hU⟩
theorem GO3.put (h : GO3 S E w B U v L) {p : Addr} (hp : p.block < B ∨ U ≤ p.block) (u : Value) : GO3 S E (w.setCell p u) B U v L := by
  obtain ⟨ds, h1, h2, h3⟩ := h
  exact ⟨ds, h1.put' (E' := E) (fun e => by have := h1.ge _ e; have := h3 _ e; omega) u, h2.far (grown_setC w p u) (fun g hb hu e => by injection e with e; omega), h3⟩
theorem GO3.sl (h : GO3 S E w B U v L) : ∃ ao cap, v = .slice ao L.length cap := by
  obtain ⟨ds, h1, h2, h3⟩ := h
  obtain ⟨ao, cap, e⟩ := h1.sl
  exact ⟨ao, cap, by rw [← h2.1]; exact e⟩
theorem GO3.gls (h : GO3 S E w B U v L) : GLs S w v L := by
  obtain ⟨ds, h1, h2, h3⟩ := h
  exact ⟨ds, h1.rows S.len, h2.1, fun k s hk => by obtain ⟨d, a, b, -⟩ := h2.2 k s hk; exact ⟨d, a, b⟩⟩
end
/-- A rib that a function returns. -/
def RibR (w w' : World) (H : Int) (up : Bool) (u : Value) (K : List Gt) : Prop := GOwn shGt 48 w' w.heap.size u K ∧ K.length ≤ 6 ∧ (∀ s ∈ K, SmG s) ∧ Below w.heap.size w w'
theorem put3f {n : Nat} {W w : World} {z0 z1 z2 : Value} {L : List (Nat × List Value)} (hF : Fb W w ((n, [z0, z1, z2]) :: L)) (hL : ∀ q ∈ L, q.1 ≠ n) (u0 u1 u2 : Value) :
    ∃ w', w' = ((w.setCell ⟨n, 0, none⟩ u0).setCell ⟨n, 1, none⟩ u1).setCell ⟨n, 2, none⟩ u2 ∧ Fb W w' ((n, [u0, u1, u2]) :: L) ∧ w'.heap.size = w.heap.size ∧ ∀ {δ β : Type} (S : Sh δ β) (E : TypeId) (B U : Nat) (v : Value) (K : List β), n < B ∨ U ≤ n → GO3 S E w B U v K → GO3 S E w' B U v K :=
  ⟨_, rfl, ((hF.set 0 u0 (by simp) hL).set 1 u1 (by simp) hL).set 2 u2 (by simp) hL, by simp only [World.size_setCell], fun _ _ _ _ _ _ hn h => ((h.put (p := ⟨n, 0, none⟩) hn u0).put (p := ⟨n, 1, none⟩) hn u1).put (p := ⟨n, 2, none⟩) hn u2⟩
set_option maxHeartbeats 4000000 in
theorem l21At_any (H : Int) (up : Bool) (v : Value) (L : List Gt) (f b : Int) (w : World) (hv : Gts w v L) :
    Calls Tryd.prog 116 #[.agg #[.int .i64 H, .bool up, v], .agg #[.int .i64 f, .int .i64 b]] w fun e w' => ∃ z : Int, e = .returned (.int .i64 z) ∧ -1 ≤ z ∧ z < L.length ∧ Below w.heap.size w w' := by
  obtain ⟨ao, n, cap, rfl, hn, hnc, hcap⟩ := GLs.sl hv
  have hF := ((Fb.start w).alloc [.int .i64 H, .bool up, .slice ao n cap] 44).alloc [.int .i64 f, .int .i64 b] 24
  simp only [World.size_alloc] at hF
  obtain ⟨n1, hn1⟩ : ∃ n, w.heap.size = n := ⟨_, rfl⟩
  rw [hn1] at hF
  have HV := Lib.hid hv
  clear hv
  have o := hF.own; simp only [World.size_alloc, World.size_drew, World.size_setCell, List.mem_cons, List.not_mem_nil, or_false, forall_eq_or_imp, forall_eq, At, and_true, Nat.zero_add, Nat.reduceAdd, List.set_cons_zero, List.set_cons_succ] at o
  go_enter Tryd.func116, Tryd.ntmps116
  go_wp2
  clear hn1
  go_loopw [5] (fun s5 wr => ∃ k : Nat, k ≤ n ∧ s5 = .int .i64 k ∧ Fb w wr [(n1 + 1, [.int .i64 f, .int .i64 b]), (n1, [.int .i64 H, .bool up, .slice ao n cap])]) (fun i _ => n - (intOf i).toNat)
  case atStart => exact ⟨0, Nat.zero_le _, rfl, hF⟩
  case round =>
    clear hF o
    obtain ⟨k, hk, rfl, hF⟩ := hrel
    have o := hF.own; simp only [World.size_alloc, World.size_drew, World.size_setCell, List.mem_cons, List.not_mem_nil, or_false, forall_eq_or_imp, forall_eq, At, and_true, Nat.zero_add, Nat.reduceAdd, List.set_cons_zero, List.set_cons_succ] at o
    by_cases hlt : k < n
    · obtain ⟨b1, p1, rfl⟩ := GLs.adr HV.out (by omega)
      obtain ⟨s, hs⟩ := get_of hn.out hlt
      obtain ⟨⟨g, c, lk, P, M⟩, old⟩ := s
      obtain ⟨a1, m1, c1, a2, m2, c2, ⟨e0, e1, -, -, -, -⟩, -, -⟩ := Gts.at HV.out hs
      have x0 := fun z : Cl wr.heap.size wr => Cl.old hF z e0
      have x1 := fun z : Cl wr.heap.size wr => Cl.old hF z e1
      have oc := fun x : Cl _ wr => (Fb.cl hF x).own; simp only [World.size_alloc, World.size_drew, World.size_setCell, List.mem_cons, List.not_mem_nil, or_false, forall_eq_or_imp, forall_eq, At, and_true, Nat.zero_add, Nat.reduceAdd, List.set_cons_zero, List.set_cons_succ] at oc
      obtain ⟨bo, hbo⟩ : ∃ bo, (g == f && c == b) = bo := ⟨_, rfl⟩
      have heql : ∀ w, (binOp .eql 24 (.agg #[.int .i64 g, .int .i64 c]) (.agg #[.int .i64 f, .int .i64 b])).run Tryd.prog w = .ok (.bool bo) w := fun w => by rw [rng_eql, hbo]
      clear hs e0 e1 hbo
      go_wp2
      first | refine wp_region_new (by kernel_rfl) (by kernel_rfl) ?_ | refine wp_region_lex ?_
      repeat (any_goals (first | go_big_quiet_step ((fail)) | (refine wpQuiet_step (fun K hK => ?_); go_simp; split <;> (rename_i hg; refine hK _ ?_; clear hK K; simp only [hg, decide_true, decide_false]))))
      all_goals (refine wpQuiet_nil ?_; intro x)
      cases bo with
      | true =>
        go_wp2
        go_ret
        exact ⟨(k : Int), rfl, by omega, by have := hn.out; omega, (hF.cl ‹_›).kp⟩
      | false =>
        go_wp2
        go_roundw
        case rel => exact ⟨k + 1, by omega, by go_num, hF.cl ‹_›⟩
        case measure => simp [intOf]; omega
    · go_wp2
      go_ret
      exact ⟨-1, rfl, by omega, by omega, hF.kp⟩
theorem Fb.swpB {W w : World} {x y : Nat × List Value} {L : List (Nat × List Value)} (h : Fb W w (x :: y :: L)) : Fb W w (y :: x :: L) := h.sub fun p hp => by
  simp only [List.mem_cons] at hp ⊢
  rcases hp with h | h | h <;> simp [h]
theorem ribR_nil (w w' : World) (h : Below w.heap.size w w') : RibR w w' 0 false (.slice none 0 0) [] := ⟨GOwn.nil _ _ _, by simp, fun s h => by simp at h, h⟩
set_option maxHeartbeats 4000000 in
theorem RibUp_any (H : Int) (up : Bool) (v : Value) (L : List Gt) (w : World) (hv : Gts w v L) (hs : ∀ s ∈ L, SmG s) :
    Calls Tryd.prog 96 #[.agg #[.int .i64 H, .bool up, v]] w fun e w' => ∃ (H2 : Int) (up2 : Bool) (u : Value) (K : List Gt), e = .returned (.agg #[.int .i64 H2, .bool up2, u]) ∧ RibR w w' H2 up2 u K := by
  obtain ⟨ao, n, cap, rfl, hn, hnc, hcap⟩ := GLs.sl hv
  have hF := ((Fb.start w).alloc [.int .i64 H, .bool up, .slice ao n cap] 44).alloc [.int .i64 0, .bool false, .slice none 0 0] 44
  replace hv := GLs.below hv hF.kp
  simp only [World.size_alloc] at hF
  obtain ⟨n1, hn1⟩ : ∃ n, w.heap.size = n := ⟨_, rfl⟩
  rw [hn1] at hF
  have hsz : n1 + 2 ≤ ((w.alloc (.cells #[.int .i64 H, .bool up, .slice ao n cap] 44)).alloc (.cells #[.int .i64 0, .bool false, .slice none 0 0] 44)).heap.size := by simp only [World.size_alloc]; omega
  have HS := Lib.hid hs
  have HN := Lib.hid hn1
  clear hs
  have o := hF.own; simp only [World.size_alloc, World.size_drew, World.size_setCell, List.mem_cons, List.not_mem_nil, or_false, forall_eq_or_imp, forall_eq, At, and_true, Nat.zero_add, Nat.reduceAdd, List.set_cons_zero, List.set_cons_succ] at o
  go_enter Tryd.func96, Tryd.ntmps96
  go_wp2_with fail
  clear hn1
  refine (sRibOk_any H up _ L _ hv).mono ?_; rintro e w2 ⟨rfl, hb2⟩
  replace hF := hF.below hb2
  replace hv := GLs.below hv hb2
  have hs2 := hb2.size
  clear hb2 o
  have o := hF.own; simp only [World.size_alloc, World.size_drew, World.size_setCell, List.mem_cons, List.not_mem_nil, or_false, forall_eq_or_imp, forall_eq, At, and_true, Nat.zero_add, Nat.reduceAdd, List.set_cons_zero, List.set_cons_succ] at o
  by_cases hq : RbOk H up L
  · have dq : decide (RbOk H up L) = true := by simp [hq]
    have HL := Lib.hid hq.1.2
    clear hq
    go_wp2_with fail
    refine (l21Copy_any H up _ L _ hv (by have := HL.out; omega) HS.out).mono ?_; rintro e w3 ⟨u, rfl, hO, hb3⟩
    have hs3 := hb3.size
    replace hO := (hO.base (B := n1 + 2) (by omega)).go3
    obtain ⟨au, cu, rfl⟩ := hO.sl
    obtain ⟨nu, hnu⟩ : ∃ nu, Hid (L.length = nu) := ⟨_, rfl⟩
    rw [hnu.out] at hO ⊢
    replace hF := (hF.below hb3).alloc [.int .i64 H, .bool true, .slice au nu cu] 44
    replace hO := hO.alloc (.cells #[.int .i64 H, .bool true, .slice au nu cu] 44)
    obtain ⟨n3, hn3⟩ : ∃ n, w3.heap.size = n := ⟨_, rfl⟩
    rw [hn3] at hF hO
    have hF2 := hF.turnB
    have hs4 : n3 < (w3.alloc (.cells #[.int .i64 H, .bool true, .slice au nu cu] 44)).heap.size := by simp only [World.size_alloc]; omega
    clear hb3 o hv hF
    have hF := hF2
    clear hF2
    have o := hF.own; simp only [World.size_alloc, World.size_drew, World.size_setCell, List.mem_cons, List.not_mem_nil, or_false, forall_eq_or_imp, forall_eq, At, and_true, Nat.zero_add, Nat.reduceAdd, List.set_cons_zero, List.set_cons_succ] at o
    go_wp2_with fail
    obtain ⟨wz, hwz, hG, hszz, hput⟩ := put3f hF (by simp; omega) (.int .i64 H) (.bool true) (.slice au nu cu)
    have hOz := hput _ _ _ _ _ _ (Or.inl (by omega)) hO
    rw [← hwz]
    clear hwz o hF hput
    have hF := hG
    have o := hF.own; simp only [World.size_alloc, World.size_drew, World.size_setCell, List.mem_cons, List.not_mem_nil, or_false, forall_eq_or_imp, forall_eq, At, and_true, Nat.zero_add, Nat.reduceAdd, List.set_cons_zero, List.set_cons_succ] at o
    refine bodyPost_ret (v := .agg #[.int .i64 H, .bool true, (.slice au nu cu)]) ?_ rfl ?_
    · simp [results, Tryd.results96, go_sem, o]
    · exact ⟨_, _, _, L, rfl, hOz.gown (by rw [hszz]; omega) (by have := HN.out; omega), HL.out, HS.out, hG.kp⟩
  · have dq : decide (RbOk H up L) = false := by simp [hq]
    clear hq
    go_wp2_with fail
    obtain ⟨wz, hwz, hG, -, -⟩ := put3f hF (by simp) (.int .i64 0) (.bool false) (.slice none 0 0)
    rw [← hwz]
    clear hwz o hF
    have hF := hG
    have o := hF.own; simp only [World.size_alloc, World.size_drew, World.size_setCell, List.mem_cons, List.not_mem_nil, or_false, forall_eq_or_imp, forall_eq, At, and_true, Nat.zero_add, Nat.reduceAdd, List.set_cons_zero, List.set_cons_succ] at o
    refine bodyPost_ret (v := .agg #[.int .i64 0, .bool false, .slice none 0 0]) ?_ rfl ?_
    · simp [results, Tryd.results96, go_sem, o]
    · exact ⟨_, _, _, [], rfl, ribR_nil _ _ hG.kp⟩
end Go.Proofs.YtonojegnbcgnaaaDoor
