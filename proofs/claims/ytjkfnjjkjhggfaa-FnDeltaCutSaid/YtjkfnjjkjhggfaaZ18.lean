/- What changed, of two tables of routes. -/
import Derived.Test.YtjkfnjjkjhggfaaZ17
import Derived.Test.YtjkfnjjkjhggfaaZ10
import Derived.Test.YtjkfnjjkjhggfaaZ4
import Derived.Deep.RegionHeld3
set_option linter.unusedSimpArgs false
set_option linter.unusedVariables false
namespace Go.Proofs.Ytjkfnjjkjhggfaa
open Go.RowKit

theorem GO2.put {δ β : Type} {S : Sh δ β} {E : TypeId} {w : World} {R B : Nat} {v : Value} {L : List β} (h : GO2 S E w R B v L) {p : Addr} (hv : v.ownBlock ≠ some p.block) (hB : p.block < B) (u : Value) : GO2 S E (w.setCell p u) R B v L := by
  obtain ⟨ds, h1, h2⟩ := h
  exact ⟨ds, h1.put' (E' := E) hv u, by simp only [World.size_setCell]; exact h2.far (grown_setC w p u) (fun g h _ e => by injection e with e; omega)⟩
theorem Fb.grownQ {W w w' : World} {L : List (Nat × List Value)} {row : Option Nat} (h : Fb W w L) (hg : w.grownBy w' row) (hW : ∀ g, row = some g → W.heap.size ≤ g) (hL : ∀ p ∈ L, row ≠ some p.1) : Fb W w' L :=
  ⟨⟨hg.os.trans h.kp.os, hg.tape.trans h.kp.tape, hg.output.trans h.kp.output, Nat.le_trans h.kp.size hg.size, fun i hi => (hg.block i (Nat.lt_of_lt_of_le hi h.kp.size) (fun e => by have := hW i e.symm; omega)).trans (h.kp.block i hi)⟩, fun p hp => by
    obtain ⟨h1, h2, h3⟩ := h.own p hp
    have hne : some p.1 ≠ row := fun e => hL p hp e.symm
    exact ⟨At.move (fun o v hv => (hg.cell_far ⟨p.1, o, none⟩ h3 hne).trans hv) (fun o v _ => hg.frozen_far ⟨p.1, o, none⟩ h3 hne) _ _ h1, h2, Nat.lt_of_lt_of_le h3 hg.size⟩⟩
theorem At.get {w : World} {b : Nat} : ∀ (vs : List Value) (o j : Nat) (v : Value), At w b o vs → vs[j]? = some v → w.cell? ⟨b, o + j, none⟩ = some v
  | [], _, _, _, _, h => by simp at h
  | x :: vs, o, 0, v, ⟨h1, _, _⟩, h => by simp at h; subst h; exact h1
  | x :: vs, o, j + 1, v, ⟨_, _, h3⟩, h => by
    have := At.get vs (o + 1) j v h3 (by simpa using h)
    rwa [show o + 1 + j = o + (j + 1) by omega] at this
theorem Fb.get {W w : World} {L : List (Nat × List Value)} (h : Fb W w L) {b : Nat} {vs : List Value} (hm : (b, vs) ∈ L) {j : Nat} {v : Value} (hj : vs[j]? = some v) : w.cell? ⟨b, j, none⟩ = some v := by
  have := At.get vs 0 j v (h.own _ hm).1 hj
  rwa [Nat.zero_add] at this

theorem Ris.at {w : World} {b off n cap : Nat} {L : List Rt} (h : GLs shRi w (.slice (some ⟨b, off, none⟩) n cap) L) {k : Nat} {f c lk : Int} {P M : List Int} (hk : L[k]? = some (f, c, lk, P, M)) :
    ∃ a1 m1 c1 a2 m2 c2, (w.cell? ⟨b, off + k * 5, none⟩ = some (.int .i64 f) ∧ w.cell? ⟨b, off + k * 5 + 1, none⟩ = some (.int .i64 c) ∧ w.cell? ⟨b, off + k * 5 + 2, none⟩ = some (.slice a1 m1 c1) ∧ w.cell? ⟨b, off + k * 5 + 3, none⟩ = some (.int .i64 lk) ∧ w.cell? ⟨b, off + k * 5 + 4, none⟩ = some (.slice a2 m2 c2)) ∧ It w (.slice a1 m1 c1) P ∧ It w (.slice a2 m2 c2) M := by
  obtain ⟨d, ⟨⟨e1, e2, e3⟩, h1, h2⟩, hc⟩ := GLs.at h hk
  obtain ⟨df, db, dl, du, dv⟩ := d
  dsimp only at e1 e2 e3 h1 h2
  subst e1; subst e2; subst e3
  obtain ⟨a1, m1, c1, rfl, _⟩ := Ints.sl h1.1
  obtain ⟨a2, m2, c2, rfl, _⟩ := Ints.sl h2.1
  exact ⟨a1, m1, c1, a2, m2, c2, ⟨hc 0 _ rfl, hc 1 _ rfl, hc 2 _ rfl, hc 3 _ rfl, hc 4 _ rfl⟩, h1, h2⟩
theorem cells_newD (w : World) (vs : List Value) (T : TypeId) : ∀ j u, vs[j]? = some u → (w.alloc (.cells vs.toArray T)).drew.cell? ((⟨w.heap.size, 0, none⟩ : Addr).add j) = some u := cells_new w vs T
abbrev Rg := Int × Int
def encRg (d : Rg) : List Value := [.int .i64 d.1, .int .i64 d.2]
theorem infoRg : (Try.prog.info? 62).map (fun i => (i.zero, i.size, i.bytes)) = some (some (.agg #[.int .i64 0, .int .i64 0]), 2, 16) := by kernel_rfl
theorem Fb.turn2 {W w : World} {x y : Nat × List Value} (h : Fb W w [x, y]) : Fb W w [y, x] := h.sub fun p hp => by
  simp only [List.mem_cons, List.not_mem_nil, or_false] at hp ⊢
  rcases hp with h | h <;> simp [h]
/-- A change of two cells written into one's own block. -/
theorem put2o {E1 E2 : TypeId} {n R B : Nat} {W w : World} {z0 z1 v1 v2 : Value} {D : List Rg} {K : List Rt} {q : Nat × List Value} (hF : Fb W w [(n, [z0, z1]), q]) (hq : q.1 ≠ n) (hD : Own E1 w R v1 2 encRg D) (hO : GO2 shRi E2 w R B v2 K) (hR : n < R) (hB : n < B) (u0 u1 : Value) :
    ∃ w', w' = (w.setCell ⟨n, 0, none⟩ u0).setCell ⟨n, 1, none⟩ u1 ∧ Fb W w' [(n, [u0, u1]), q] ∧ Own E1 w' R v1 2 encRg D ∧ GO2 shRi E2 w' R B v2 K :=
  have hne : v2.ownBlock ≠ some n := fun e => by have := hO.ge _ e; omega
  ⟨_, rfl, (hF.set 0 u0 (by simp) (by simpa using hq)).set 1 u1 (by simp) (by simpa using hq), (hD.set (a := ⟨n, 0, none⟩) hR u0).set (a := ⟨n, 1, none⟩) hR u1, (hO.put (p := ⟨n, 0, none⟩) hne hB u0).put (p := ⟨n, 1, none⟩) hne hB u1⟩
set_option maxRecDepth 100000 in
set_option maxHeartbeats 4000000 in
theorem DeltaOf_any (v1 v2 : Value) (L1 L2 : List Rt) (w : World) (hv1 : GLs shRi w v1 L1) (hv2 : GLs shRi w v2 L2) (h1 : L1.length ≤ 20) (h2 : L2.length ≤ 20) (hs : ∀ s ∈ L2, SmRt s) :
    Calls Try.prog 33 #[v1, v2] w fun e w' => ∃ (s1 s2 : Value) (D : List Rg) (L : List Rt), e = .returned (.agg #[s1, s2]) ∧ Own 62 w' w.heap.size s1 2 encRg D ∧ GOwn shRi 64 w' w.heap.size s2 L ∧ (D.length ≤ 20 ∧ L.length ≤ 20) ∧ (∀ s ∈ L, SmRt s) ∧ Below w.heap.size w w' := by
  have HSm := Lib.hid hs
  have HV1 := Lib.hid hv1
  have HV2 := Lib.hid hv2
  obtain ⟨ao, n, cap, rfl, hn, hnc, hcap⟩ := GLs.sl hv1
  obtain ⟨ap, m, caq, rfl, hm, hmc, hcaq⟩ := GLs.sl hv2
  have hn1 : n ≤ 20 := by have := hn.out; omega
  have hm1 : m ≤ 20 := by have := hm.out; omega
  have hF := ((((Fb.start w).alloc [.slice none 0 0, .slice none 0 0] 32).other (.cells #[] 62)).other (.cells #[] 64)).alloc [.slice (some ⟨w.heap.size + 1, 0, none⟩) 0 0, .slice (some ⟨w.heap.size + 1 + 1, 0, none⟩) 0 0] 32
  have hD : Own 62 ((((w.alloc (.cells #[.slice none 0 0, .slice none 0 0] 32)).alloc (.cells #[] 62)).alloc (.cells #[] 64)).alloc (.cells #[.slice (some ⟨w.heap.size + 1, 0, none⟩) 0 0, .slice (some ⟨w.heap.size + 1 + 1, 0, none⟩) 0 0] 32)) (w.heap.size + 1) (.slice (some ⟨w.heap.size + 1, 0, none⟩) 0 0) 2 encRg [] := by
    have := Own.made (enc := encRg) (sz := 2) 62 (w.alloc (.cells #[.slice none 0 0, .slice none 0 0] 32)) (w.heap.size + 1) (by simp)
    rw [World.size_alloc] at this
    exact (this.alloc _).alloc _
  have hT : Own 64 ((((w.alloc (.cells #[.slice none 0 0, .slice none 0 0] 32)).alloc (.cells #[] 62)).alloc (.cells #[] 64)).alloc (.cells #[.slice (some ⟨w.heap.size + 1, 0, none⟩) 0 0, .slice (some ⟨w.heap.size + 1 + 1, 0, none⟩) 0 0] 32)) (w.heap.size + 1) (.slice (some ⟨w.heap.size + 1 + 1, 0, none⟩) 0 0) 5 encRt [] := by
    have := Own.made (enc := encRt) (sz := 5) 64 ((w.alloc (.cells #[.slice none 0 0, .slice none 0 0] 32)).alloc (.cells #[] 62)) (w.heap.size + 1) (by simp)
    simp only [World.size_alloc] at this
    exact this.alloc _
  simp only [World.size_alloc] at hF
  obtain ⟨n0, hn0'⟩ : ∃ n, w.heap.size = n := ⟨_, rfl⟩
  have HN := Lib.hid hn0'
  rw [hn0'] at hF hD hT
  clear hv1 hv2 hs h1 h2
  have o := hF.own; simp only [World.size_alloc, World.size_drew, World.size_setCell, List.mem_cons, List.not_mem_nil, or_false, forall_eq_or_imp, forall_eq, At, and_true, Nat.zero_add, Nat.reduceAdd, List.set_cons_zero, List.set_cons_succ] at o
  obtain ⟨q1, hq1⟩ : ∃ q, decide (RsOk L1) = q := ⟨_, rfl⟩
  obtain ⟨q2, hq2⟩ : ∃ q, decide (RsOk L2) = q := ⟨_, rfl⟩
  have cA := fun w' (h : Below w.heap.size w w') => (hq1 ▸ sRoutesOk_any _ L1 w' (HV1.out.below h).rts : Calls Try.prog 42 #[.slice ao n cap] w' fun e w2 => e = .returned (.bool q1) ∧ Below w'.heap.size w' w2)
  have cB := fun w' (h : Below w.heap.size w w') => (hq2 ▸ sRoutesOk_any _ L2 w' (HV2.out.below h).rts : Calls Try.prog 42 #[.slice ap m caq] w' fun e w2 => e = .returned (.bool q2) ∧ Below w'.heap.size w' w2)
  go_enter Try.func33, Try.ntmps33
  go_wp2_with fail
  refine (cA _ hF.kp).mono ?_; rintro e w1 ⟨rfl, hb1⟩
  replace hF := hF.below hb1
  replace hD := hD.below hb1
  replace hT := hT.below hb1
  have hz1 := hb1.size
  simp only [World.size_alloc] at hz1
  clear hb1 o cA
  have o := hF.own; simp only [World.size_alloc, World.size_drew, World.size_setCell, List.mem_cons, List.not_mem_nil, or_false, forall_eq_or_imp, forall_eq, At, and_true, Nat.zero_add, Nat.reduceAdd, List.set_cons_zero, List.set_cons_succ] at o
  cases q1 with
  | false =>
    have hF2 := hF.turn2
    clear hF o
    have hF := hF2
    clear hF2
    have o := hF.own; simp only [World.size_alloc, World.size_drew, World.size_setCell, List.mem_cons, List.not_mem_nil, or_false, forall_eq_or_imp, forall_eq, At, and_true, Nat.zero_add, Nat.reduceAdd, List.set_cons_zero, List.set_cons_succ] at o
    go_wp2_with fail
    obtain ⟨wz, hwz, hG, hDz, hOz⟩ := put2o hF (by simp <;> omega) hD (show GO2 shRi 64 _ (n0 + 1) (n0 + 1) _ [] from ⟨[], hT, rfl, fun k s h => by simp at h⟩) (by omega) (by omega) (.slice (some ⟨n0 + 1, 0, none⟩) 0 0) (.slice (some ⟨n0 + 1 + 1, 0, none⟩) 0 0)
    rw [← hwz]
    clear hwz o hF
    have hF := hG
    have o := hF.own; simp only [World.size_alloc, World.size_drew, World.size_setCell, List.mem_cons, List.not_mem_nil, or_false, forall_eq_or_imp, forall_eq, At, and_true, Nat.zero_add, Nat.reduceAdd, List.set_cons_zero, List.set_cons_succ] at o
    refine bodyPost_ret (v := .agg #[.slice (some ⟨n0 + 1, 0, none⟩) 0 0, .slice (some ⟨n0 + 1 + 1, 0, none⟩) 0 0]) (by simp [results, Try.results33, go_sem, o]) rfl ?_
    exact ⟨_, _, _, _, rfl, hDz.base (by have := HN.out; omega), ⟨_, hOz.choose_spec.1.base (by have := HN.out; omega), hOz.choose_spec.2.mono (by have := HN.out; omega) (Nat.le_refl _)⟩, ⟨by simp, by simp⟩, fun s h => (by simp at h), hG.kp⟩
  | true =>
    go_wp2_with fail
    refine (cB _ hF.kp).mono ?_; rintro e w2 ⟨rfl, hb2⟩
    replace hF := hF.below hb2
    replace hD := hD.below hb2
    replace hT := hT.below hb2
    have hz2 := hb2.size
    clear hb2 o cB
    have o := hF.own; simp only [World.size_alloc, World.size_drew, World.size_setCell, List.mem_cons, List.not_mem_nil, or_false, forall_eq_or_imp, forall_eq, At, and_true, Nat.zero_add, Nat.reduceAdd, List.set_cons_zero, List.set_cons_succ] at o
    cases q2 with
    | false =>
      have hF2 := hF.turn2
      clear hF o
      have hF := hF2
      clear hF2
      have o := hF.own; simp only [World.size_alloc, World.size_drew, World.size_setCell, List.mem_cons, List.not_mem_nil, or_false, forall_eq_or_imp, forall_eq, At, and_true, Nat.zero_add, Nat.reduceAdd, List.set_cons_zero, List.set_cons_succ] at o
      go_wp2_with fail
      obtain ⟨wz, hwz, hG, hDz, hOz⟩ := put2o hF (by simp <;> omega) hD (show GO2 shRi 64 _ (n0 + 1) (n0 + 1) _ [] from ⟨[], hT, rfl, fun k s h => by simp at h⟩) (by omega) (by omega) (.slice (some ⟨n0 + 1, 0, none⟩) 0 0) (.slice (some ⟨n0 + 1 + 1, 0, none⟩) 0 0)
      rw [← hwz]
      clear hwz o hF
      have hF := hG
      have o := hF.own; simp only [World.size_alloc, World.size_drew, World.size_setCell, List.mem_cons, List.not_mem_nil, or_false, forall_eq_or_imp, forall_eq, At, and_true, Nat.zero_add, Nat.reduceAdd, List.set_cons_zero, List.set_cons_succ] at o
      refine bodyPost_ret (v := .agg #[.slice (some ⟨n0 + 1, 0, none⟩) 0 0, .slice (some ⟨n0 + 1 + 1, 0, none⟩) 0 0]) (by simp [results, Try.results33, go_sem, o]) rfl ?_
      exact ⟨_, _, _, _, rfl, hDz.base (by have := HN.out; omega), ⟨_, hOz.choose_spec.1.base (by have := HN.out; omega), hOz.choose_spec.2.mono (by have := HN.out; omega) (Nat.le_refl _)⟩, ⟨by simp, by simp⟩, fun s h => (by simp at h), hG.kp⟩
    | true =>
      clear hq1 hq2
      go_wp2_with fail
      go_loopw [6] (fun s6 wr => ∃ (i : Nat) (u : Value) (D : List Rg), s6 = .int .i64 (i : Int) ∧ i ≤ n ∧ D.length ≤ i ∧ u.ownBlock ≠ some (n0 + 1 + 1 + 1) ∧ u.ownBlock ≠ some (n0 + 1 + 1) ∧ n0 + 1 + 1 + 1 < wr.heap.size ∧ Own 62 wr (n0 + 1) u 2 encRg D ∧ Own 64 wr (n0 + 1) (.slice (some ⟨n0 + 1 + 1, 0, none⟩) 0 0) 5 encRt [] ∧ Fb w wr [(n0 + 1 + 1 + 1, [u, .slice (some ⟨n0 + 1 + 1, 0, none⟩) 0 0]), (n0, [.slice none 0 0, .slice none 0 0])]) (fun s6 _ => n - (intOf s6).toNat)
      case atStart => exact ⟨0, _, [], rfl, Nat.zero_le _, by simp, (by simp [Value.ownBlock]), (by simp [Value.ownBlock]), by omega, hD, hT, hF⟩
      case round =>
        clear hF hD hT o hz1 hz2
        obtain ⟨i, u, D, rfl, hi, hDl, hne, hne2, hsz, hD, hT, hF⟩ := hrel
        obtain ⟨au, cu, rfl⟩ := hD.sl
        obtain ⟨nk, hnk⟩ : ∃ nk, Hid (D.length = nk) := ⟨_, rfl⟩
        have hnk1 : nk ≤ i := by have := hnk.out; omega
        rw [hnk.out] at hD hF hne hne2
        have o := hF.own; simp only [World.size_alloc, World.size_drew, World.size_setCell, List.mem_cons, List.not_mem_nil, or_false, forall_eq_or_imp, forall_eq, At, and_true, Nat.zero_add, Nat.reduceAdd, List.set_cons_zero, List.set_cons_succ] at o
        by_cases hlt : i < n
        · obtain ⟨b1, p1, rfl⟩ := GLs.adr HV1.out (by omega)
          obtain ⟨s, hs⟩ := get_of hn.out hlt
          obtain ⟨g, c, lk, P, M⟩ := s
          obtain ⟨a1, m1, c1, a2, m2, c2, e0, e1, -, -, -, -, -⟩ := Rts.at HV1.out.rts hs
          have E2 := Lib.hid (⟨e0, e1⟩ : w.cell? ⟨b1, p1 + i * 5, none⟩ = _ ∧ w.cell? ⟨b1, p1 + i * 5 + 1, none⟩ = _)
          have x0 := hF.old e0
          have x1 := hF.old e1
          clear hs e0 e1
          go_wp2_with fail
          refine (l23At_any _ L2 g c _ (HV2.out.below hF.kp).rts).mono ?_; rintro e w3 ⟨N, rfl, hN, hb3⟩
          replace hF := hF.below hb3
          replace hD := hD.below hb3
          replace hT := hT.below hb3
          have hz3 := hb3.size
          clear hb3 o x0 x1
          have o := hF.own; simp only [World.size_alloc, World.size_drew, World.size_setCell, List.mem_cons, List.not_mem_nil, or_false, forall_eq_or_imp, forall_eq, At, and_true, Nat.zero_add, Nat.reduceAdd, List.set_cons_zero, List.set_cons_succ] at o
          by_cases hN0 : N < 0
          · have dN : decide (N < 0) = true := decide_eq_true hN0
            clear hN0
            have x0 := hF.old E2.out.1
            have x1 := hF.old E2.out.2
            go_upto_region 8 with (fail)
            refine wp_region_held_drew (S := fun w' => w'.cell? ⟨b1, p1 + i * 5, none⟩ = some (.int .i64 g) ∧ w'.cell? ⟨b1, p1 + i * 5 + 1, none⟩ = some (.int .i64 c)) (by kernel_rfl) ?hs (fun hHeld => ?_)
            case hs => exact ⟨Fb.old (by repeat (first | with_reducible exact hF | with_reducible apply Fb.drew | with_reducible apply Fb.other)) E2.out.1, Fb.old (by repeat (first | with_reducible exact hF | with_reducible apply Fb.drew | with_reducible apply Fb.other)) E2.out.2⟩
            clear x0 x1
            refine wpAnyH_take (i := 0) (oi := _) (v := ?_) (by simp only [List.getElem?_toArray, List.getElem?_cons_succ, List.getElem?_cons_zero]; rfl) (by kernel_rfl) (by kernel_rfl) (by kernel_rfl) (by exact fun _ _ _ h => h) (Or.inl ⟨by rfl, ?hy⟩) (by assumption) ?_
            case hy => (intro w hSw; (try dsimp only at hSw); go_simp; (try with_reducible rfl))
            (try simp only [Act.put, List.setIfInBounds_toArray, List.set_cons_zero, List.set_cons_succ])
            refine wpAnyH_take (i := 2) (oi := _) (v := ?_) (by simp only [List.getElem?_toArray, List.getElem?_cons_succ, List.getElem?_cons_zero]; rfl) (by kernel_rfl) (by kernel_rfl) (by kernel_rfl) (by exact fun _ _ _ h => h) (Or.inl ⟨by rfl, ?hy⟩) (by assumption) ?_
            case hy => (intro w hSw; (try dsimp only at hSw); go_simp; (try with_reducible rfl))
            (try simp only [Act.put, List.setIfInBounds_toArray, List.set_cons_zero, List.set_cons_succ])
            refine wpAnyH_take (i := 3) (oi := _) (v := ?_) (by simp only [List.getElem?_toArray, List.getElem?_cons_succ, List.getElem?_cons_zero]; rfl) (by kernel_rfl) (by kernel_rfl) (by kernel_rfl) (by exact fun _ _ _ h => h) (Or.inl ⟨by rfl, ?hy⟩) (by assumption) ?_
            case hy => (intro w hSw; (try dsimp only at hSw); go_simp; (try with_reducible rfl))
            (try simp only [Act.put, List.setIfInBounds_toArray, List.set_cons_zero, List.set_cons_succ])
            refine wpAnyH_take (i := 4) (oi := _) (v := ?_) (by simp only [List.getElem?_toArray, List.getElem?_cons_succ, List.getElem?_cons_zero]; rfl) (by kernel_rfl) (by kernel_rfl) (by kernel_rfl) (by exact fun _ _ _ h => h) (Or.inl ⟨by rfl, ?hy⟩) (by assumption) ?_
            case hy => (intro w hSw; (try dsimp only at hSw); go_simp; (try with_reducible rfl))
            (try simp only [Act.put, List.setIfInBounds_toArray, List.set_cons_zero, List.set_cons_succ])
            refine wpAnyH_take (i := 5) (oi := _) (v := ?_) (by simp only [List.getElem?_toArray, List.getElem?_cons_succ, List.getElem?_cons_zero]; rfl) (by kernel_rfl) (by kernel_rfl) (by kernel_rfl) (by exact fun _ _ _ h => h) (Or.inl ⟨by rfl, ?hy⟩) (by assumption) ?_
            case hy => (intro w hSw; (try dsimp only at hSw); go_simp; (try with_reducible rfl))
            (try simp only [Act.put, List.setIfInBounds_toArray, List.set_cons_zero, List.set_cons_succ])
            refine wpAnyH_take (i := 6) (oi := _) (v := ?_) (by simp only [List.getElem?_toArray, List.getElem?_cons_succ, List.getElem?_cons_zero]; rfl) (by kernel_rfl) (by kernel_rfl) (by kernel_rfl) (by exact fun _ _ _ h => h) (Or.inl ⟨by rfl, ?hy⟩) (by assumption) ?_
            case hy => (intro w hSw; (try dsimp only at hSw); go_simp; (try with_reducible rfl))
            (try simp only [Act.put, List.setIfInBounds_toArray, List.set_cons_zero, List.set_cons_succ])
            refine wpAnyH_ready (rs := [1, 7]) (by kernel_rfl) (by simp) ?_
            refine AllReadyH.cons (o := _) (by simp only [List.getElem?_toArray, List.getElem?_cons_succ, List.getElem?_cons_zero]; rfl) (fun KK hK => ?_) (AllReadyH.cons (o := _) (by simp only [List.getElem?_toArray, List.getElem?_cons_succ, List.getElem?_cons_zero]; rfl) (fun KK hK => ?_) AllReadyH.nil)
            · go_simp
              refine hK.out _ _ ?hs (fun hHeld => ?_)
              case hs => ((try dsimp only); exact ⟨Fb.old (by repeat (first | with_reducible exact hF | with_reducible apply Fb.drew | with_reducible apply Fb.other)) E2.out.1, Fb.old (by repeat (first | with_reducible exact hF | with_reducible apply Fb.drew | with_reducible apply Fb.other)) E2.out.2⟩)
              clear hK KK
              (try simp only [Act.put, List.setIfInBounds_toArray, List.set_cons_zero, List.set_cons_succ])
              refine wpAnyH_ready (rs := [7]) (by kernel_rfl) (by simp) ?_
              refine AllReadyH.cons (o := _) (by simp only [List.getElem?_toArray, List.getElem?_cons_succ, List.getElem?_cons_zero]; rfl) (fun KK hK => ?_) AllReadyH.nil
              go_simp
              refine hK.out _ _ ?hs (fun hHeld => ?_)
              case hs => ((try dsimp only); exact ⟨Fb.old (by repeat (first | with_reducible exact hF | with_reducible apply Fb.drew | with_reducible apply Fb.other)) E2.out.1, Fb.old (by repeat (first | with_reducible exact hF | with_reducible apply Fb.drew | with_reducible apply Fb.other)) E2.out.2⟩)
              clear hK KK
              (try simp only [Act.put, List.setIfInBounds_toArray, List.set_cons_zero, List.set_cons_succ])
              refine wpAnyH_ready (rs := [8]) (by kernel_rfl) (by simp) ?_
              refine AllReadyH.cons (o := _) (by simp only [List.getElem?_toArray, List.getElem?_cons_succ, List.getElem?_cons_zero]; rfl) (fun KK hK => ?_) AllReadyH.nil
              refine step_app (by rfl) _ _ 29 (by rfl) 62 (.agg #[.int .i64 0, .int .i64 0]) 2 16 Try.underlying29 infoRg rfl (by decide) (by decide) (n0 + 1) encRg _ D rfl (hD.alloc _).drew (g, c) ⟨_, 0, none⟩ 1 rfl rfl (cells_newD _ _ _) (by simp [encRg, Value.oneCell']) (by have := hnk.out; omega) (by simp only [World.size_alloc, World.size_drew]; omega) ?_
              intro v9 wz hO9 hg9 hb9 hf9
              have hsz9 := hb9.size
              simp only [World.size_alloc, World.size_drew] at hsz9
              replace hF := (hF.other (.cells #[.int .i64 g, .int .i64 c] 62)).drew.grownQ hg9 (fun g' hg => by have := hD.ge g' hg; omega) (fun p hp e => by have := hD.ge _ e; simp only [List.mem_cons, List.not_mem_nil, or_false] at hp; rcases hp with rfl | rfl; exact hne e; simp at this <;> omega)
              replace hT := (hT.alloc (.cells #[.int .i64 g, .int .i64 c] 62)).drew.grown hg9 (fun g' h1 h2 => hne2 (Eq.trans h2 (Eq.symm h1)))
              replace hne := frsh_off hf9 hne (by simp only [World.size_alloc, World.size_drew]; omega)
              replace hne2 := frsh_off hf9 hne2 (by simp only [World.size_alloc, World.size_drew]; omega)
              obtain ⟨a9, c9, rfl⟩ := hO9.sl
              obtain ⟨n9, hn9⟩ : ∃ n9, Hid ((D ++ [(g, c)]).length = n9) := ⟨_, rfl⟩
              rw [hn9.out] at hO9 hne hne2 ⊢
              clear hg9 hb9 hf9 hD o
              have o := hF.own; simp only [World.size_alloc, World.size_drew, World.size_setCell, List.mem_cons, List.not_mem_nil, or_false, forall_eq_or_imp, forall_eq, At, and_true, Nat.zero_add, Nat.reduceAdd, List.set_cons_zero, List.set_cons_succ] at o
              refine hK.out _ _ ?hs (fun hHeld => ?_)
              case hs => ((try dsimp only); exact ⟨Fb.old (by repeat (first | with_reducible exact hF | with_reducible apply Fb.drew | with_reducible apply Fb.other)) E2.out.1, Fb.old (by repeat (first | with_reducible exact hF | with_reducible apply Fb.drew | with_reducible apply Fb.other)) E2.out.2⟩)
              clear hK KK
              (try simp only [Act.put, List.setIfInBounds_toArray, List.set_cons_zero, List.set_cons_succ])
              refine wpAnyH_take (i := 9) (oi := _) (v := ?_) (by simp only [List.getElem?_toArray, List.getElem?_cons_succ, List.getElem?_cons_zero]; rfl) (by kernel_rfl) (by kernel_rfl) (by kernel_rfl) (by exact fun _ _ _ h => h) (Or.inl ⟨by rfl, ?hy⟩) (by assumption) ?_
              case hy => (intro w hSw; (try dsimp only at hSw); go_simp; (try with_reducible rfl))
              (try simp only [Act.put, List.setIfInBounds_toArray, List.set_cons_zero, List.set_cons_succ])
              refine wpAnyH_ready (rs := [10]) (by kernel_rfl) (by simp) ?_
              refine AllReadyH.cons (o := _) (by simp only [List.getElem?_toArray, List.getElem?_cons_succ, List.getElem?_cons_zero]; rfl) (fun KK hK => ?_) AllReadyH.nil
              go_simp
              replace hF := hF.set 0 (.slice a9 n9 c9) (by simp) (by simp <;> omega)
              replace hD := hO9.put' (E' := 62) (p := ⟨n0 + 1 + 1 + 1, 0, none⟩) hne (.slice a9 n9 c9)
              replace hT := hT.put' (E' := 64) (p := ⟨n0 + 1 + 1 + 1, 0, none⟩) (by simp [Value.ownBlock]) (.slice a9 n9 c9)
              refine hK.out _ _ ?hs (fun hHeld => ?_)
              case hs => ((try dsimp only); exact ⟨Fb.old (by repeat (first | with_reducible exact hF | with_reducible apply Fb.drew | with_reducible apply Fb.other)) E2.out.1, Fb.old (by repeat (first | with_reducible exact hF | with_reducible apply Fb.drew | with_reducible apply Fb.other)) E2.out.2⟩)
              clear hK KK
              (try simp only [Act.put, List.setIfInBounds_toArray, List.set_cons_zero, List.set_cons_succ])
              refine wpAnyH_done (by kernel_rfl) ?_ _
              clear hO9 o
              have o := hF.own; simp only [World.size_alloc, World.size_drew, World.size_setCell, List.mem_cons, List.not_mem_nil, or_false, forall_eq_or_imp, forall_eq, At, and_true, Nat.zero_add, Nat.reduceAdd, List.set_cons_zero, List.set_cons_succ] at o
              go_wp2_with fail
              go_roundw
              case rel => exact ⟨i + 1, _, D ++ [(g, c)], by go_num, by omega, by simp; omega, hne, hne2, by simp only [World.size_setCell]; omega, hD, hT, hF⟩
              case measure => simp [intOf]; omega
            · go_simp
              refine hK.out _ _ ?hs (fun hHeld => ?_)
              case hs => ((try dsimp only); exact ⟨Fb.old (by repeat (first | with_reducible exact hF | with_reducible apply Fb.drew | with_reducible apply Fb.other)) E2.out.1, Fb.old (by repeat (first | with_reducible exact hF | with_reducible apply Fb.drew | with_reducible apply Fb.other)) E2.out.2⟩)
              clear hK KK
              (try simp only [Act.put, List.setIfInBounds_toArray, List.set_cons_zero, List.set_cons_succ])
              refine wpAnyH_ready (rs := [1]) (by kernel_rfl) (by simp) ?_
              refine AllReadyH.cons (o := _) (by simp only [List.getElem?_toArray, List.getElem?_cons_succ, List.getElem?_cons_zero]; rfl) (fun KK hK => ?_) AllReadyH.nil
              go_simp
              refine hK.out _ _ ?hs (fun hHeld => ?_)
              case hs => ((try dsimp only); exact ⟨Fb.old (by repeat (first | with_reducible exact hF | with_reducible apply Fb.drew | with_reducible apply Fb.other)) E2.out.1, Fb.old (by repeat (first | with_reducible exact hF | with_reducible apply Fb.drew | with_reducible apply Fb.other)) E2.out.2⟩)
              clear hK KK
              (try simp only [Act.put, List.setIfInBounds_toArray, List.set_cons_zero, List.set_cons_succ])
              refine wpAnyH_ready (rs := [8]) (by kernel_rfl) (by simp) ?_
              refine AllReadyH.cons (o := _) (by simp only [List.getElem?_toArray, List.getElem?_cons_succ, List.getElem?_cons_zero]; rfl) (fun KK hK => ?_) AllReadyH.nil
              refine step_app (by rfl) _ _ 29 (by rfl) 62 (.agg #[.int .i64 0, .int .i64 0]) 2 16 Try.underlying29 infoRg rfl (by decide) (by decide) (n0 + 1) encRg _ D rfl (hD.alloc _).drew (g, c) ⟨_, 0, none⟩ 1 rfl rfl (cells_newD _ _ _) (by simp [encRg, Value.oneCell']) (by have := hnk.out; omega) (by simp only [World.size_alloc, World.size_drew]; omega) ?_
              intro v9 wz hO9 hg9 hb9 hf9
              have hsz9 := hb9.size
              simp only [World.size_alloc, World.size_drew] at hsz9
              replace hF := (hF.other (.cells #[.int .i64 g, .int .i64 c] 62)).drew.grownQ hg9 (fun g' hg => by have := hD.ge g' hg; omega) (fun p hp e => by have := hD.ge _ e; simp only [List.mem_cons, List.not_mem_nil, or_false] at hp; rcases hp with rfl | rfl; exact hne e; simp at this <;> omega)
              replace hT := (hT.alloc (.cells #[.int .i64 g, .int .i64 c] 62)).drew.grown hg9 (fun g' h1 h2 => hne2 (Eq.trans h2 (Eq.symm h1)))
              replace hne := frsh_off hf9 hne (by simp only [World.size_alloc, World.size_drew]; omega)
              replace hne2 := frsh_off hf9 hne2 (by simp only [World.size_alloc, World.size_drew]; omega)
              obtain ⟨a9, c9, rfl⟩ := hO9.sl
              obtain ⟨n9, hn9⟩ : ∃ n9, Hid ((D ++ [(g, c)]).length = n9) := ⟨_, rfl⟩
              rw [hn9.out] at hO9 hne hne2 ⊢
              clear hg9 hb9 hf9 hD o
              have o := hF.own; simp only [World.size_alloc, World.size_drew, World.size_setCell, List.mem_cons, List.not_mem_nil, or_false, forall_eq_or_imp, forall_eq, At, and_true, Nat.zero_add, Nat.reduceAdd, List.set_cons_zero, List.set_cons_succ] at o
              refine hK.out _ _ ?hs (fun hHeld => ?_)
              case hs => ((try dsimp only); exact ⟨Fb.old (by repeat (first | with_reducible exact hF | with_reducible apply Fb.drew | with_reducible apply Fb.other)) E2.out.1, Fb.old (by repeat (first | with_reducible exact hF | with_reducible apply Fb.drew | with_reducible apply Fb.other)) E2.out.2⟩)
              clear hK KK
              (try simp only [Act.put, List.setIfInBounds_toArray, List.set_cons_zero, List.set_cons_succ])
              refine wpAnyH_take (i := 9) (oi := _) (v := ?_) (by simp only [List.getElem?_toArray, List.getElem?_cons_succ, List.getElem?_cons_zero]; rfl) (by kernel_rfl) (by kernel_rfl) (by kernel_rfl) (by exact fun _ _ _ h => h) (Or.inl ⟨by rfl, ?hy⟩) (by assumption) ?_
              case hy => (intro w hSw; (try dsimp only at hSw); go_simp; (try with_reducible rfl))
              (try simp only [Act.put, List.setIfInBounds_toArray, List.set_cons_zero, List.set_cons_succ])
              refine wpAnyH_ready (rs := [10]) (by kernel_rfl) (by simp) ?_
              refine AllReadyH.cons (o := _) (by simp only [List.getElem?_toArray, List.getElem?_cons_succ, List.getElem?_cons_zero]; rfl) (fun KK hK => ?_) AllReadyH.nil
              go_simp
              replace hF := hF.set 0 (.slice a9 n9 c9) (by simp) (by simp <;> omega)
              replace hD := hO9.put' (E' := 62) (p := ⟨n0 + 1 + 1 + 1, 0, none⟩) hne (.slice a9 n9 c9)
              replace hT := hT.put' (E' := 64) (p := ⟨n0 + 1 + 1 + 1, 0, none⟩) (by simp [Value.ownBlock]) (.slice a9 n9 c9)
              refine hK.out _ _ ?hs (fun hHeld => ?_)
              case hs => ((try dsimp only); exact ⟨Fb.old (by repeat (first | with_reducible exact hF | with_reducible apply Fb.drew | with_reducible apply Fb.other)) E2.out.1, Fb.old (by repeat (first | with_reducible exact hF | with_reducible apply Fb.drew | with_reducible apply Fb.other)) E2.out.2⟩)
              clear hK KK
              (try simp only [Act.put, List.setIfInBounds_toArray, List.set_cons_zero, List.set_cons_succ])
              refine wpAnyH_done (by kernel_rfl) ?_ _
              clear hO9 o
              have o := hF.own; simp only [World.size_alloc, World.size_drew, World.size_setCell, List.mem_cons, List.not_mem_nil, or_false, forall_eq_or_imp, forall_eq, At, and_true, Nat.zero_add, Nat.reduceAdd, List.set_cons_zero, List.set_cons_succ] at o
              go_wp2_with fail
              go_roundw
              case rel => exact ⟨i + 1, _, D ++ [(g, c)], by go_num, by omega, by simp; omega, hne, hne2, by simp only [World.size_setCell]; omega, hD, hT, hF⟩
              case measure => simp [intOf]; omega
          · have dN : decide (N < 0) = false := decide_eq_false hN0
            clear hN0
            go_wp2_with fail
            go_roundw
            case rel => exact ⟨i + 1, _, D, by go_num, by omega, by omega, hne, hne2, by omega, hD, hT, hF⟩
            case measure => simp [intOf]; omega
        · go_wp2_with fail
          obtain ⟨hne3, hap⟩ : (Value.slice au nk cu).ownBlock ≠ some (n0 + 1 + 1 + 1) ∧ Apart (.slice (some ⟨n0 + 1 + 1, 0, none⟩) 0 0) (.slice au nk cu) := ⟨hne, fun g h1 h2 => hne2 (Eq.trans h2 (Eq.symm h1))⟩
          have hO : GO2 shRi 64 wr (n0 + 1) (n0 + 4) (.slice (some ⟨n0 + 1 + 1, 0, none⟩) 0 0) [] := ⟨[], hT, rfl, fun k s h => by simp at h⟩
          have hDn : D.length ≤ 20 := by omega
          clear hne hne2 hT hnk1 hnk hDl hlt
          go_loopw [7] (fun s7 wr => ∃ (j : Nat) (u : Value) (L : List Rt), s7 = .int .i64 (j : Int) ∧ j ≤ m ∧ L.length ≤ j ∧ u.ownBlock ≠ some (n0 + 1 + 1 + 1) ∧ Apart u (.slice au nk cu) ∧ n0 + 1 + 1 + 1 < wr.heap.size ∧ Hid (∀ s ∈ L, SmRt s) ∧ Own 62 wr (n0 + 1) (.slice au nk cu) 2 encRg D ∧ GO2 shRi 64 wr (n0 + 1) (n0 + 4) u L ∧ Fb w wr [(n0 + 1 + 1 + 1, [.slice au nk cu, u]), (n0, [.slice none 0 0, .slice none 0 0])]) (fun s7 _ => m - (intOf s7).toNat)
          case atStart => exact ⟨0, _, [], rfl, Nat.zero_le _, by simp, (by simp [Value.ownBlock]), hap, hsz, fun s h => (by simp at h), hD, hO, hF⟩
          case round =>
            obtain ⟨nD, hnD⟩ : ∃ nD, nD = nk := ⟨_, rfl⟩
            subst hnD
            clear hF hD hO o hap hsz
            obtain ⟨j, u, L, rfl, hj, hL, hne, hap, hsz, HLs, hD, hO, hF⟩ := hrel
            obtain ⟨at5, ct5, rfl⟩ := hO.sl
            obtain ⟨nk, hnk⟩ : ∃ nk, Hid (L.length = nk) := ⟨_, rfl⟩
            have hnk1 : nk ≤ j := by have := hnk.out; omega
            rw [hnk.out] at hO hF hne hap
            have o := hF.own; simp only [World.size_alloc, World.size_drew, World.size_setCell, List.mem_cons, List.not_mem_nil, or_false, forall_eq_or_imp, forall_eq, At, and_true, Nat.zero_add, Nat.reduceAdd, List.set_cons_zero, List.set_cons_succ] at o
            by_cases hlt : j < m
            · obtain ⟨b1, p1, rfl⟩ := GLs.adr HV2.out (by omega)
              obtain ⟨s, hs⟩ := get_of hm.out hlt
              have HSS := Lib.hid (HSm.out s (List.mem_of_getElem? hs))
              obtain ⟨f, b, lk, P, M⟩ := s
              have HSx : Hid (∀ s ∈ L ++ [(f, b, lk, P, M)], SmRt s) := sm_snoc HLs.out HSS.out
              obtain ⟨a1, m1, c1, a2, m2, c2, ⟨e0, e1, e2, e3, e4⟩, i1, i2⟩ := Ris.at HV2.out hs
              have E5 := Lib.hid (⟨e0, e1, e2, e3, e4⟩ : w.cell? ⟨b1, p1 + j * 5, none⟩ = _ ∧ w.cell? ⟨b1, p1 + j * 5 + 1, none⟩ = _ ∧ w.cell? ⟨b1, p1 + j * 5 + 2, none⟩ = _ ∧ w.cell? ⟨b1, p1 + j * 5 + 3, none⟩ = _ ∧ w.cell? ⟨b1, p1 + j * 5 + 4, none⟩ = _)
              have HI := Lib.hid (And.intro i1 i2)
              have x0 := hF.old e0
              have x1 := hF.old e1
              clear hs e0 e1 e2 e3 e4 i1 i2
              go_wp2_with fail
              refine (l23At_any _ L1 f b _ (HV1.out.below hF.kp).rts).mono ?_; rintro e w3 ⟨N, rfl, hN, hb3⟩
              replace hF := hF.below hb3
              replace hD := hD.below hb3
              replace hO := hO.below hb3
              have hz3 := hb3.size
              clear hb3 o x0 x1
              have o := hF.own; simp only [World.size_alloc, World.size_drew, World.size_setCell, List.mem_cons, List.not_mem_nil, or_false, forall_eq_or_imp, forall_eq, At, and_true, Nat.zero_add, Nat.reduceAdd, List.set_cons_zero, List.set_cons_succ] at o
              by_cases hN0 : N < 0
              · have dN : decide (N < 0) = true := decide_eq_true hN0
                clear hN0 o
                go_wp2
                first | refine wp_region_new (by kernel_rfl) (by kernel_rfl) ?_ | refine wp_region_lex ?_
                repeat (any_goals (first | go_big_quiet_step ((fail)) | (refine wpQuiet_step (fun K hK => ?_); go_simp; split <;> (rename_i hg; refine hK _ ?_; clear hK K; simp only [hg, decide_true, decide_false]))))
                all_goals (refine wpQuiet_nil ?_; intro x)
                obtain ⟨wq, hbq⟩ := x
                replace hF := hF.below hbq
                replace hD := hD.below hbq
                replace hO := hO.below hbq
                have hzq := hbq.size
                dsimp only
                clear hbq
                have o := hF.own; simp only [World.size_alloc, World.size_drew, World.size_setCell, List.mem_cons, List.not_mem_nil, or_false, forall_eq_or_imp, forall_eq, At, and_true, Nat.zero_add, Nat.reduceAdd, List.set_cons_zero, List.set_cons_succ] at o
                have x0 := hF.old E5.out.1
                go_upto_region 14 with (fail)
                refine wp_region_held_drew (S := fun w' => w'.cell? ⟨b1, p1 + j * 5, none⟩ = some (.int .i64 f) ∧ w'.cell? ⟨b1, p1 + j * 5 + 1, none⟩ = some (.int .i64 b) ∧ w'.cell? ⟨b1, p1 + j * 5 + 2, none⟩ = some (.slice a1 m1 c1) ∧ w'.cell? ⟨b1, p1 + j * 5 + 3, none⟩ = some (.int .i64 lk) ∧ w'.cell? ⟨b1, p1 + j * 5 + 4, none⟩ = some (.slice a2 m2 c2)) (by kernel_rfl) ?hs (fun hHeld => ?_)
                case hs => exact ⟨Fb.old (by repeat (first | with_reducible exact hF | with_reducible apply Fb.drew | with_reducible apply Fb.other)) E5.out.1, Fb.old (by repeat (first | with_reducible exact hF | with_reducible apply Fb.drew | with_reducible apply Fb.other)) E5.out.2.1, Fb.old (by repeat (first | with_reducible exact hF | with_reducible apply Fb.drew | with_reducible apply Fb.other)) E5.out.2.2.1, Fb.old (by repeat (first | with_reducible exact hF | with_reducible apply Fb.drew | with_reducible apply Fb.other)) E5.out.2.2.2.1, Fb.old (by repeat (first | with_reducible exact hF | with_reducible apply Fb.drew | with_reducible apply Fb.other)) E5.out.2.2.2.2⟩
                refine wpAnyH_take (i := 0) (oi := _) (v := ?_) (by simp only [List.getElem?_toArray, List.getElem?_cons_succ, List.getElem?_cons_zero]; rfl) (by kernel_rfl) (by kernel_rfl) (by kernel_rfl) (by exact fun _ _ _ h => h) (Or.inl ⟨by rfl, ?hy⟩) (by assumption) ?_
                case hy => (intro w hSw; (try dsimp only at hSw); go_simp; (try with_reducible rfl))
                (try simp only [Act.put, List.setIfInBounds_toArray, List.set_cons_zero, List.set_cons_succ])
                refine wpAnyH_take (i := 2) (oi := _) (v := ?_) (by simp only [List.getElem?_toArray, List.getElem?_cons_succ, List.getElem?_cons_zero]; rfl) (by kernel_rfl) (by kernel_rfl) (by kernel_rfl) (by exact fun _ _ _ h => h) (Or.inl ⟨by rfl, ?hy⟩) (by assumption) ?_
                case hy => (intro w hSw; (try dsimp only at hSw); go_simp; (try with_reducible rfl))
                (try simp only [Act.put, List.setIfInBounds_toArray, List.set_cons_zero, List.set_cons_succ])
                refine wpAnyH_take (i := 3) (oi := _) (v := ?_) (by simp only [List.getElem?_toArray, List.getElem?_cons_succ, List.getElem?_cons_zero]; rfl) (by kernel_rfl) (by kernel_rfl) (by kernel_rfl) (by exact fun _ _ _ h => h) (Or.inl ⟨by rfl, ?hy⟩) (by assumption) ?_
                case hy => (intro w hSw; (try dsimp only at hSw); go_simp; (try with_reducible rfl))
                (try simp only [Act.put, List.setIfInBounds_toArray, List.set_cons_zero, List.set_cons_succ])
                refine wpAnyH_take (i := 4) (oi := _) (v := ?_) (by simp only [List.getElem?_toArray, List.getElem?_cons_succ, List.getElem?_cons_zero]; rfl) (by kernel_rfl) (by kernel_rfl) (by kernel_rfl) (by exact fun _ _ _ h => h) (Or.inl ⟨by rfl, ?hy⟩) (by assumption) ?_
                case hy => (intro w hSw; (try dsimp only at hSw); go_simp; (try with_reducible rfl))
                (try simp only [Act.put, List.setIfInBounds_toArray, List.set_cons_zero, List.set_cons_succ])
                refine wpAnyH_take (i := 5) (oi := _) (v := ?_) (by simp only [List.getElem?_toArray, List.getElem?_cons_succ, List.getElem?_cons_zero]; rfl) (by kernel_rfl) (by kernel_rfl) (by kernel_rfl) (by exact fun _ _ _ h => h) (Or.inl ⟨by rfl, ?hy⟩) (by assumption) ?_
                case hy => (intro w hSw; (try dsimp only at hSw); go_simp; (try with_reducible rfl))
                (try simp only [Act.put, List.setIfInBounds_toArray, List.set_cons_zero, List.set_cons_succ])
                refine wpAnyH_ready (rs := [1, 6]) (by kernel_rfl) (by simp) ?_
                refine AllReadyH.cons (o := _) (by simp only [List.getElem?_toArray, List.getElem?_cons_succ, List.getElem?_cons_zero]; rfl) (fun KK hK => ?_) (AllReadyH.cons (o := _) (by simp only [List.getElem?_toArray, List.getElem?_cons_succ, List.getElem?_cons_zero]; rfl) (fun KK hK => ?_) AllReadyH.nil)
                · go_simp
                  refine hK.out _ _ ?hs (fun hHeld => ?_)
                  case hs => ((try dsimp only); exact ⟨Fb.old (by repeat (first | with_reducible exact hF | with_reducible apply Fb.drew | with_reducible apply Fb.other)) E5.out.1, Fb.old (by repeat (first | with_reducible exact hF | with_reducible apply Fb.drew | with_reducible apply Fb.other)) E5.out.2.1, Fb.old (by repeat (first | with_reducible exact hF | with_reducible apply Fb.drew | with_reducible apply Fb.other)) E5.out.2.2.1, Fb.old (by repeat (first | with_reducible exact hF | with_reducible apply Fb.drew | with_reducible apply Fb.other)) E5.out.2.2.2.1, Fb.old (by repeat (first | with_reducible exact hF | with_reducible apply Fb.drew | with_reducible apply Fb.other)) E5.out.2.2.2.2⟩)
                  clear hK KK
                  (try simp only [Act.put, List.setIfInBounds_toArray, List.set_cons_zero, List.set_cons_succ])
                  refine wpAnyH_ready (rs := [6]) (by kernel_rfl) (by simp) ?_
                  refine AllReadyH.cons (o := _) (by simp only [List.getElem?_toArray, List.getElem?_cons_succ, List.getElem?_cons_zero]; rfl) (fun KK hK => ?_) AllReadyH.nil
                  go_simp
                  (go_at_call 36; go_must (refine (l4Copy_any f b lk _ _ P M _ (It.below HI.out.1 (Fb.kp (W := w) (by repeat (first | with_reducible exact hF | with_reducible apply Fb.drew | with_reducible apply Fb.other)))) (It.below HI.out.2 (Fb.kp (W := w) (by repeat (first | with_reducible exact hF | with_reducible apply Fb.drew | with_reducible apply Fb.other)))) (by have := HSS.out.2.2.2.1.1; dsimp only at this; omega) (by have := HSS.out.2.2.2.2; dsimp only at this; omega)).mono ?_); rintro e wy ⟨pv9, mv9, rfl, y1, y2, hby⟩; obtain ⟨oy1, cy1, rfl, -⟩ := y1.1.1.ex; obtain ⟨oy2, cy2, rfl, -⟩ := y2.1.1.ex; have hlo := hO.lt; have hsy := hby.size; simp only [World.size_drew] at hsy y1 y2; replace hF := Fb.below (by repeat (first | with_reducible exact hF | with_reducible apply Fb.drew | with_reducible apply Fb.other)) hby; replace hO := GO2.below (by repeat (first | with_reducible exact hO | with_reducible apply GO2.drew | with_reducible apply GO2.alloc)) hby; replace hD := Own.below (by repeat (first | with_reducible exact hD | with_reducible apply Own.drew | with_reducible apply Own.alloc)) hby; clear hby o; have o := hF.own; simp only [World.size_alloc, World.size_drew, World.size_setCell, List.mem_cons, List.not_mem_nil, or_false, forall_eq_or_imp, forall_eq, At, and_true, Nat.zero_add, Nat.reduceAdd, List.set_cons_zero, List.set_cons_succ] at o)
                  (try go_wp2_with fail)
                  refine hK.out _ _ ?hs (fun hHeld => ?_)
                  case hs => ((try dsimp only); exact ⟨Fb.old (by repeat (first | with_reducible exact hF | with_reducible apply Fb.drew | with_reducible apply Fb.other)) E5.out.1, Fb.old (by repeat (first | with_reducible exact hF | with_reducible apply Fb.drew | with_reducible apply Fb.other)) E5.out.2.1, Fb.old (by repeat (first | with_reducible exact hF | with_reducible apply Fb.drew | with_reducible apply Fb.other)) E5.out.2.2.1, Fb.old (by repeat (first | with_reducible exact hF | with_reducible apply Fb.drew | with_reducible apply Fb.other)) E5.out.2.2.2.1, Fb.old (by repeat (first | with_reducible exact hF | with_reducible apply Fb.drew | with_reducible apply Fb.other)) E5.out.2.2.2.2⟩)
                  clear hK KK
                  (try simp only [Act.put, List.setIfInBounds_toArray, List.set_cons_zero, List.set_cons_succ])
                  refine wpAnyH_ready (rs := [7]) (by kernel_rfl) (by simp) ?_
                  refine AllReadyH.cons (o := _) (by simp only [List.getElem?_toArray, List.getElem?_cons_succ, List.getElem?_cons_zero]; rfl) (fun KK hK => ?_) AllReadyH.nil
                  go_simp
                  refine hK.out _ _ ?hs (fun hHeld => ?_)
                  case hs => ((try dsimp only); exact ⟨Fb.old (by repeat (first | with_reducible exact hF | with_reducible apply Fb.drew | with_reducible apply Fb.other)) E5.out.1, Fb.old (by repeat (first | with_reducible exact hF | with_reducible apply Fb.drew | with_reducible apply Fb.other)) E5.out.2.1, Fb.old (by repeat (first | with_reducible exact hF | with_reducible apply Fb.drew | with_reducible apply Fb.other)) E5.out.2.2.1, Fb.old (by repeat (first | with_reducible exact hF | with_reducible apply Fb.drew | with_reducible apply Fb.other)) E5.out.2.2.2.1, Fb.old (by repeat (first | with_reducible exact hF | with_reducible apply Fb.drew | with_reducible apply Fb.other)) E5.out.2.2.2.2⟩)
                  clear hK KK
                  (try simp only [Act.put, List.setIfInBounds_toArray, List.set_cons_zero, List.set_cons_succ])
                  refine wpAnyH_ready (rs := [8]) (by kernel_rfl) (by simp) ?_
                  refine AllReadyH.cons (o := _) (by simp only [List.getElem?_toArray, List.getElem?_cons_succ, List.getElem?_cons_zero]; rfl) (fun KK hK => ?_) AllReadyH.nil
                  (obtain ⟨ds, hOw, hG⟩ := hO; have hlG := hG.1; refine step_app (by rfl) _ _ 30 (by rfl) 64 (.agg #[.int .i64 0, .int .i64 0, .slice none 0 0, .int .i64 0, .slice none 0 0]) 5 72 Try.underlying30 infoRt rfl (by decide) (by decide) (n0 + 1) encRt _ ds rfl (hOw.alloc _) (⟨f, b, lk, .slice oy1 P.length cy1, .slice oy2 M.length cy2⟩ : RtD) ⟨_, 0, none⟩ 1 rfl rfl (cells_new _ _ _) (by simp [encRt, Value.oneCell']) (by have := hnk.out; omega) (by simp only [World.size_alloc]; omega) ?_)
                  intro v9 wz hO9 hg9 hb9 hf9
                  have hO2 := go2_snocI (s := (f, b, lk, P, M)) hG ((Below.refl _ _).alloc (Nat.le_refl _) _) hO9 hg9 hf9 (Sh.below (S := shRi) ⟨⟨rfl, rfl, rfl⟩, y1.1, y2.1⟩ ((Below.refl _ _).alloc (Nat.le_refl _) _)) (sub2 (fun g h => ⟨by have := y1.2 g h; omega, by have := y1.2 g h; simp only [World.size_alloc]; omega, fun e => by have := y1.2 g h; have := hlo g e; omega⟩) (fun g h => ⟨by have := y2.2 g h; omega, by have := y2.2 g h; simp only [World.size_alloc]; omega, fun e => by have := y2.2 g h; have := hlo g e; omega⟩))
                  have hsz9 := hb9.size
                  simp only [World.size_alloc] at hsz9
                  replace hF := (hF.other (.cells #[.int .i64 f, .int .i64 b, .slice oy1 P.length cy1, .int .i64 lk, .slice oy2 M.length cy2] 64)).grownQ hg9 (fun g' hg => by have := hOw.ge g' hg; omega) (fun p hp e => by have := hOw.ge _ e; simp only [List.mem_cons, List.not_mem_nil, or_false] at hp; rcases hp with rfl | rfl; exact hne e; simp at this <;> omega)
                  have hDlt := hD.lt
                  replace hD := (hD.alloc (.cells #[.int .i64 f, .int .i64 b, .slice oy1 P.length cy1, .int .i64 lk, .slice oy2 M.length cy2] 64)).grown hg9 (fun g' h1 h2 => hap g' h2 h1)
                  replace hap := Apart.frsh' hap hf9 (fun g hg => by have := hDlt g hg; simp only [World.size_alloc]; omega)
                  replace hne := frsh_off hf9 hne (by simp only [World.size_alloc]; omega)
                  obtain ⟨a9, c9, rfl⟩ := hO2.sl
                  obtain ⟨n9, hn9⟩ : ∃ n9, Hid ((L ++ [(f, b, lk, P, M)]).length = n9) := ⟨_, rfl⟩
                  rw [hn9.out] at hO2 hne hap ⊢
                  clear hg9 hb9 hf9 hO9 hOw hG o hlG
                  have o := hF.own; simp only [World.size_alloc, World.size_drew, World.size_setCell, List.mem_cons, List.not_mem_nil, or_false, forall_eq_or_imp, forall_eq, At, and_true, Nat.zero_add, Nat.reduceAdd, List.set_cons_zero, List.set_cons_succ] at o
                  refine hK.out _ _ ?hs (fun hHeld => ?_)
                  case hs => ((try dsimp only); exact ⟨Fb.old (by repeat (first | with_reducible exact hF | with_reducible apply Fb.drew | with_reducible apply Fb.other)) E5.out.1, Fb.old (by repeat (first | with_reducible exact hF | with_reducible apply Fb.drew | with_reducible apply Fb.other)) E5.out.2.1, Fb.old (by repeat (first | with_reducible exact hF | with_reducible apply Fb.drew | with_reducible apply Fb.other)) E5.out.2.2.1, Fb.old (by repeat (first | with_reducible exact hF | with_reducible apply Fb.drew | with_reducible apply Fb.other)) E5.out.2.2.2.1, Fb.old (by repeat (first | with_reducible exact hF | with_reducible apply Fb.drew | with_reducible apply Fb.other)) E5.out.2.2.2.2⟩)
                  clear hK KK
                  (try simp only [Act.put, List.setIfInBounds_toArray, List.set_cons_zero, List.set_cons_succ])
                  refine wpAnyH_take (i := 9) (oi := _) (v := ?_) (by simp only [List.getElem?_toArray, List.getElem?_cons_succ, List.getElem?_cons_zero]; rfl) (by kernel_rfl) (by kernel_rfl) (by kernel_rfl) (by exact fun _ _ _ h => h) (Or.inl ⟨by rfl, ?hy⟩) (by assumption) ?_
                  case hy => (intro w hSw; (try dsimp only at hSw); go_simp; (try with_reducible rfl))
                  (try simp only [Act.put, List.setIfInBounds_toArray, List.set_cons_zero, List.set_cons_succ])
                  refine wpAnyH_ready (rs := [10]) (by kernel_rfl) (by simp) ?_
                  refine AllReadyH.cons (o := _) (by simp only [List.getElem?_toArray, List.getElem?_cons_succ, List.getElem?_cons_zero]; rfl) (fun KK hK => ?_) AllReadyH.nil
                  go_simp
                  replace hF := hF.set 1 (.slice a9 n9 c9) (by simp) (by simp <;> omega)
                  replace hD := hD.put' (E' := 62) (p := ⟨n0 + 1 + 1 + 1, 1, none⟩) hne3 (.slice a9 n9 c9)
                  have hO := hO2.put (p := ⟨n0 + 1 + 1 + 1, 1, none⟩) hne (by dsimp only; omega) (.slice a9 n9 c9)
                  refine hK.out _ _ ?hs (fun hHeld => ?_)
                  case hs => ((try dsimp only); exact ⟨Fb.old (by repeat (first | with_reducible exact hF | with_reducible apply Fb.drew | with_reducible apply Fb.other)) E5.out.1, Fb.old (by repeat (first | with_reducible exact hF | with_reducible apply Fb.drew | with_reducible apply Fb.other)) E5.out.2.1, Fb.old (by repeat (first | with_reducible exact hF | with_reducible apply Fb.drew | with_reducible apply Fb.other)) E5.out.2.2.1, Fb.old (by repeat (first | with_reducible exact hF | with_reducible apply Fb.drew | with_reducible apply Fb.other)) E5.out.2.2.2.1, Fb.old (by repeat (first | with_reducible exact hF | with_reducible apply Fb.drew | with_reducible apply Fb.other)) E5.out.2.2.2.2⟩)
                  clear hK KK
                  (try simp only [Act.put, List.setIfInBounds_toArray, List.set_cons_zero, List.set_cons_succ])
                  refine wpAnyH_done (by kernel_rfl) ?_ _
                  clear hO2 o
                  have o := hF.own; simp only [World.size_alloc, World.size_drew, World.size_setCell, List.mem_cons, List.not_mem_nil, or_false, forall_eq_or_imp, forall_eq, At, and_true, Nat.zero_add, Nat.reduceAdd, List.set_cons_zero, List.set_cons_succ] at o
                  go_wp2_with fail
                  go_roundw
                  case rel => exact ⟨j + 1, _, L ++ [(f, b, lk, P, M)], by go_num, by omega, by simp; omega, hne, hap, by simp only [World.size_setCell]; omega, HSx, hD, hO, hF⟩
                  case measure => simp [intOf]; omega
                ·
                  go_simp
                  (go_at_call 36; go_must (refine (l4Copy_any f b lk _ _ P M _ (It.below HI.out.1 (Fb.kp (W := w) (by repeat (first | with_reducible exact hF | with_reducible apply Fb.drew | with_reducible apply Fb.other)))) (It.below HI.out.2 (Fb.kp (W := w) (by repeat (first | with_reducible exact hF | with_reducible apply Fb.drew | with_reducible apply Fb.other)))) (by have := HSS.out.2.2.2.1.1; dsimp only at this; omega) (by have := HSS.out.2.2.2.2; dsimp only at this; omega)).mono ?_); rintro e wy ⟨pv9, mv9, rfl, y1, y2, hby⟩; obtain ⟨oy1, cy1, rfl, -⟩ := y1.1.1.ex; obtain ⟨oy2, cy2, rfl, -⟩ := y2.1.1.ex; have hlo := hO.lt; have hsy := hby.size; simp only [World.size_drew] at hsy y1 y2; replace hF := Fb.below (by repeat (first | with_reducible exact hF | with_reducible apply Fb.drew | with_reducible apply Fb.other)) hby; replace hO := GO2.below (by repeat (first | with_reducible exact hO | with_reducible apply GO2.drew | with_reducible apply GO2.alloc)) hby; replace hD := Own.below (by repeat (first | with_reducible exact hD | with_reducible apply Own.drew | with_reducible apply Own.alloc)) hby; clear hby o; have o := hF.own; simp only [World.size_alloc, World.size_drew, World.size_setCell, List.mem_cons, List.not_mem_nil, or_false, forall_eq_or_imp, forall_eq, At, and_true, Nat.zero_add, Nat.reduceAdd, List.set_cons_zero, List.set_cons_succ] at o)
                  (try go_wp2_with fail)
                  refine hK.out _ _ ?hs (fun hHeld => ?_)
                  case hs => ((try dsimp only); exact ⟨Fb.old (by repeat (first | with_reducible exact hF | with_reducible apply Fb.drew | with_reducible apply Fb.other)) E5.out.1, Fb.old (by repeat (first | with_reducible exact hF | with_reducible apply Fb.drew | with_reducible apply Fb.other)) E5.out.2.1, Fb.old (by repeat (first | with_reducible exact hF | with_reducible apply Fb.drew | with_reducible apply Fb.other)) E5.out.2.2.1, Fb.old (by repeat (first | with_reducible exact hF | with_reducible apply Fb.drew | with_reducible apply Fb.other)) E5.out.2.2.2.1, Fb.old (by repeat (first | with_reducible exact hF | with_reducible apply Fb.drew | with_reducible apply Fb.other)) E5.out.2.2.2.2⟩)
                  clear hK KK
                  (try simp only [Act.put, List.setIfInBounds_toArray, List.set_cons_zero, List.set_cons_succ])
                  refine wpAnyH_ready (rs := [1, 7]) (by kernel_rfl) (by simp) ?_
                  refine AllReadyH.cons (o := _) (by simp only [List.getElem?_toArray, List.getElem?_cons_succ, List.getElem?_cons_zero]; rfl) (fun KK hK => ?_) (AllReadyH.cons (o := _) (by simp only [List.getElem?_toArray, List.getElem?_cons_succ, List.getElem?_cons_zero]; rfl) (fun KK hK => ?_) AllReadyH.nil)
                  · go_simp
                    refine hK.out _ _ ?hs (fun hHeld => ?_)
                    case hs => ((try dsimp only); exact ⟨Fb.old (by repeat (first | with_reducible exact hF | with_reducible apply Fb.drew | with_reducible apply Fb.other)) E5.out.1, Fb.old (by repeat (first | with_reducible exact hF | with_reducible apply Fb.drew | with_reducible apply Fb.other)) E5.out.2.1, Fb.old (by repeat (first | with_reducible exact hF | with_reducible apply Fb.drew | with_reducible apply Fb.other)) E5.out.2.2.1, Fb.old (by repeat (first | with_reducible exact hF | with_reducible apply Fb.drew | with_reducible apply Fb.other)) E5.out.2.2.2.1, Fb.old (by repeat (first | with_reducible exact hF | with_reducible apply Fb.drew | with_reducible apply Fb.other)) E5.out.2.2.2.2⟩)
                    clear hK KK
                    (try simp only [Act.put, List.setIfInBounds_toArray, List.set_cons_zero, List.set_cons_succ])
                    refine wpAnyH_ready (rs := [7]) (by kernel_rfl) (by simp) ?_
                    refine AllReadyH.cons (o := _) (by simp only [List.getElem?_toArray, List.getElem?_cons_succ, List.getElem?_cons_zero]; rfl) (fun KK hK => ?_) AllReadyH.nil
                    go_simp
                    refine hK.out _ _ ?hs (fun hHeld => ?_)
                    case hs => ((try dsimp only); exact ⟨Fb.old (by repeat (first | with_reducible exact hF | with_reducible apply Fb.drew | with_reducible apply Fb.other)) E5.out.1, Fb.old (by repeat (first | with_reducible exact hF | with_reducible apply Fb.drew | with_reducible apply Fb.other)) E5.out.2.1, Fb.old (by repeat (first | with_reducible exact hF | with_reducible apply Fb.drew | with_reducible apply Fb.other)) E5.out.2.2.1, Fb.old (by repeat (first | with_reducible exact hF | with_reducible apply Fb.drew | with_reducible apply Fb.other)) E5.out.2.2.2.1, Fb.old (by repeat (first | with_reducible exact hF | with_reducible apply Fb.drew | with_reducible apply Fb.other)) E5.out.2.2.2.2⟩)
                    clear hK KK
                    (try simp only [Act.put, List.setIfInBounds_toArray, List.set_cons_zero, List.set_cons_succ])
                    refine wpAnyH_ready (rs := [8]) (by kernel_rfl) (by simp) ?_
                    refine AllReadyH.cons (o := _) (by simp only [List.getElem?_toArray, List.getElem?_cons_succ, List.getElem?_cons_zero]; rfl) (fun KK hK => ?_) AllReadyH.nil
                    (obtain ⟨ds, hOw, hG⟩ := hO; have hlG := hG.1; refine step_app (by rfl) _ _ 30 (by rfl) 64 (.agg #[.int .i64 0, .int .i64 0, .slice none 0 0, .int .i64 0, .slice none 0 0]) 5 72 Try.underlying30 infoRt rfl (by decide) (by decide) (n0 + 1) encRt _ ds rfl (hOw.alloc _) (⟨f, b, lk, .slice oy1 P.length cy1, .slice oy2 M.length cy2⟩ : RtD) ⟨_, 0, none⟩ 1 rfl rfl (cells_new _ _ _) (by simp [encRt, Value.oneCell']) (by have := hnk.out; omega) (by simp only [World.size_alloc]; omega) ?_)
                    intro v9 wz hO9 hg9 hb9 hf9
                    have hO2 := go2_snocI (s := (f, b, lk, P, M)) hG ((Below.refl _ _).alloc (Nat.le_refl _) _) hO9 hg9 hf9 (Sh.below (S := shRi) ⟨⟨rfl, rfl, rfl⟩, y1.1, y2.1⟩ ((Below.refl _ _).alloc (Nat.le_refl _) _)) (sub2 (fun g h => ⟨by have := y1.2 g h; omega, by have := y1.2 g h; simp only [World.size_alloc]; omega, fun e => by have := y1.2 g h; have := hlo g e; omega⟩) (fun g h => ⟨by have := y2.2 g h; omega, by have := y2.2 g h; simp only [World.size_alloc]; omega, fun e => by have := y2.2 g h; have := hlo g e; omega⟩))
                    have hsz9 := hb9.size
                    simp only [World.size_alloc] at hsz9
                    replace hF := (hF.other (.cells #[.int .i64 f, .int .i64 b, .slice oy1 P.length cy1, .int .i64 lk, .slice oy2 M.length cy2] 64)).grownQ hg9 (fun g' hg => by have := hOw.ge g' hg; omega) (fun p hp e => by have := hOw.ge _ e; simp only [List.mem_cons, List.not_mem_nil, or_false] at hp; rcases hp with rfl | rfl; exact hne e; simp at this <;> omega)
                    have hDlt := hD.lt
                    replace hD := (hD.alloc (.cells #[.int .i64 f, .int .i64 b, .slice oy1 P.length cy1, .int .i64 lk, .slice oy2 M.length cy2] 64)).grown hg9 (fun g' h1 h2 => hap g' h2 h1)
                    replace hap := Apart.frsh' hap hf9 (fun g hg => by have := hDlt g hg; simp only [World.size_alloc]; omega)
                    replace hne := frsh_off hf9 hne (by simp only [World.size_alloc]; omega)
                    obtain ⟨a9, c9, rfl⟩ := hO2.sl
                    obtain ⟨n9, hn9⟩ : ∃ n9, Hid ((L ++ [(f, b, lk, P, M)]).length = n9) := ⟨_, rfl⟩
                    rw [hn9.out] at hO2 hne hap ⊢
                    clear hg9 hb9 hf9 hO9 hOw hG o hlG
                    have o := hF.own; simp only [World.size_alloc, World.size_drew, World.size_setCell, List.mem_cons, List.not_mem_nil, or_false, forall_eq_or_imp, forall_eq, At, and_true, Nat.zero_add, Nat.reduceAdd, List.set_cons_zero, List.set_cons_succ] at o
                    refine hK.out _ _ ?hs (fun hHeld => ?_)
                    case hs => ((try dsimp only); exact ⟨Fb.old (by repeat (first | with_reducible exact hF | with_reducible apply Fb.drew | with_reducible apply Fb.other)) E5.out.1, Fb.old (by repeat (first | with_reducible exact hF | with_reducible apply Fb.drew | with_reducible apply Fb.other)) E5.out.2.1, Fb.old (by repeat (first | with_reducible exact hF | with_reducible apply Fb.drew | with_reducible apply Fb.other)) E5.out.2.2.1, Fb.old (by repeat (first | with_reducible exact hF | with_reducible apply Fb.drew | with_reducible apply Fb.other)) E5.out.2.2.2.1, Fb.old (by repeat (first | with_reducible exact hF | with_reducible apply Fb.drew | with_reducible apply Fb.other)) E5.out.2.2.2.2⟩)
                    clear hK KK
                    (try simp only [Act.put, List.setIfInBounds_toArray, List.set_cons_zero, List.set_cons_succ])
                    refine wpAnyH_take (i := 9) (oi := _) (v := ?_) (by simp only [List.getElem?_toArray, List.getElem?_cons_succ, List.getElem?_cons_zero]; rfl) (by kernel_rfl) (by kernel_rfl) (by kernel_rfl) (by exact fun _ _ _ h => h) (Or.inl ⟨by rfl, ?hy⟩) (by assumption) ?_
                    case hy => (intro w hSw; (try dsimp only at hSw); go_simp; (try with_reducible rfl))
                    (try simp only [Act.put, List.setIfInBounds_toArray, List.set_cons_zero, List.set_cons_succ])
                    refine wpAnyH_ready (rs := [10]) (by kernel_rfl) (by simp) ?_
                    refine AllReadyH.cons (o := _) (by simp only [List.getElem?_toArray, List.getElem?_cons_succ, List.getElem?_cons_zero]; rfl) (fun KK hK => ?_) AllReadyH.nil
                    go_simp
                    replace hF := hF.set 1 (.slice a9 n9 c9) (by simp) (by simp <;> omega)
                    replace hD := hD.put' (E' := 62) (p := ⟨n0 + 1 + 1 + 1, 1, none⟩) hne3 (.slice a9 n9 c9)
                    have hO := hO2.put (p := ⟨n0 + 1 + 1 + 1, 1, none⟩) hne (by dsimp only; omega) (.slice a9 n9 c9)
                    refine hK.out _ _ ?hs (fun hHeld => ?_)
                    case hs => ((try dsimp only); exact ⟨Fb.old (by repeat (first | with_reducible exact hF | with_reducible apply Fb.drew | with_reducible apply Fb.other)) E5.out.1, Fb.old (by repeat (first | with_reducible exact hF | with_reducible apply Fb.drew | with_reducible apply Fb.other)) E5.out.2.1, Fb.old (by repeat (first | with_reducible exact hF | with_reducible apply Fb.drew | with_reducible apply Fb.other)) E5.out.2.2.1, Fb.old (by repeat (first | with_reducible exact hF | with_reducible apply Fb.drew | with_reducible apply Fb.other)) E5.out.2.2.2.1, Fb.old (by repeat (first | with_reducible exact hF | with_reducible apply Fb.drew | with_reducible apply Fb.other)) E5.out.2.2.2.2⟩)
                    clear hK KK
                    (try simp only [Act.put, List.setIfInBounds_toArray, List.set_cons_zero, List.set_cons_succ])
                    refine wpAnyH_done (by kernel_rfl) ?_ _
                    clear hO2 o
                    have o := hF.own; simp only [World.size_alloc, World.size_drew, World.size_setCell, List.mem_cons, List.not_mem_nil, or_false, forall_eq_or_imp, forall_eq, At, and_true, Nat.zero_add, Nat.reduceAdd, List.set_cons_zero, List.set_cons_succ] at o
                    go_wp2_with fail
                    go_roundw
                    case rel => exact ⟨j + 1, _, L ++ [(f, b, lk, P, M)], by go_num, by omega, by simp; omega, hne, hap, by simp only [World.size_setCell]; omega, HSx, hD, hO, hF⟩
                    case measure => simp [intOf]; omega
                  · go_simp
                    refine hK.out _ _ ?hs (fun hHeld => ?_)
                    case hs => ((try dsimp only); exact ⟨Fb.old (by repeat (first | with_reducible exact hF | with_reducible apply Fb.drew | with_reducible apply Fb.other)) E5.out.1, Fb.old (by repeat (first | with_reducible exact hF | with_reducible apply Fb.drew | with_reducible apply Fb.other)) E5.out.2.1, Fb.old (by repeat (first | with_reducible exact hF | with_reducible apply Fb.drew | with_reducible apply Fb.other)) E5.out.2.2.1, Fb.old (by repeat (first | with_reducible exact hF | with_reducible apply Fb.drew | with_reducible apply Fb.other)) E5.out.2.2.2.1, Fb.old (by repeat (first | with_reducible exact hF | with_reducible apply Fb.drew | with_reducible apply Fb.other)) E5.out.2.2.2.2⟩)
                    clear hK KK
                    (try simp only [Act.put, List.setIfInBounds_toArray, List.set_cons_zero, List.set_cons_succ])
                    refine wpAnyH_ready (rs := [1]) (by kernel_rfl) (by simp) ?_
                    refine AllReadyH.cons (o := _) (by simp only [List.getElem?_toArray, List.getElem?_cons_succ, List.getElem?_cons_zero]; rfl) (fun KK hK => ?_) AllReadyH.nil
                    go_simp
                    refine hK.out _ _ ?hs (fun hHeld => ?_)
                    case hs => ((try dsimp only); exact ⟨Fb.old (by repeat (first | with_reducible exact hF | with_reducible apply Fb.drew | with_reducible apply Fb.other)) E5.out.1, Fb.old (by repeat (first | with_reducible exact hF | with_reducible apply Fb.drew | with_reducible apply Fb.other)) E5.out.2.1, Fb.old (by repeat (first | with_reducible exact hF | with_reducible apply Fb.drew | with_reducible apply Fb.other)) E5.out.2.2.1, Fb.old (by repeat (first | with_reducible exact hF | with_reducible apply Fb.drew | with_reducible apply Fb.other)) E5.out.2.2.2.1, Fb.old (by repeat (first | with_reducible exact hF | with_reducible apply Fb.drew | with_reducible apply Fb.other)) E5.out.2.2.2.2⟩)
                    clear hK KK
                    (try simp only [Act.put, List.setIfInBounds_toArray, List.set_cons_zero, List.set_cons_succ])
                    refine wpAnyH_ready (rs := [8]) (by kernel_rfl) (by simp) ?_
                    refine AllReadyH.cons (o := _) (by simp only [List.getElem?_toArray, List.getElem?_cons_succ, List.getElem?_cons_zero]; rfl) (fun KK hK => ?_) AllReadyH.nil
                    (obtain ⟨ds, hOw, hG⟩ := hO; have hlG := hG.1; refine step_app (by rfl) _ _ 30 (by rfl) 64 (.agg #[.int .i64 0, .int .i64 0, .slice none 0 0, .int .i64 0, .slice none 0 0]) 5 72 Try.underlying30 infoRt rfl (by decide) (by decide) (n0 + 1) encRt _ ds rfl (hOw.alloc _) (⟨f, b, lk, .slice oy1 P.length cy1, .slice oy2 M.length cy2⟩ : RtD) ⟨_, 0, none⟩ 1 rfl rfl (cells_new _ _ _) (by simp [encRt, Value.oneCell']) (by have := hnk.out; omega) (by simp only [World.size_alloc]; omega) ?_)
                    intro v9 wz hO9 hg9 hb9 hf9
                    have hO2 := go2_snocI (s := (f, b, lk, P, M)) hG ((Below.refl _ _).alloc (Nat.le_refl _) _) hO9 hg9 hf9 (Sh.below (S := shRi) ⟨⟨rfl, rfl, rfl⟩, y1.1, y2.1⟩ ((Below.refl _ _).alloc (Nat.le_refl _) _)) (sub2 (fun g h => ⟨by have := y1.2 g h; omega, by have := y1.2 g h; simp only [World.size_alloc]; omega, fun e => by have := y1.2 g h; have := hlo g e; omega⟩) (fun g h => ⟨by have := y2.2 g h; omega, by have := y2.2 g h; simp only [World.size_alloc]; omega, fun e => by have := y2.2 g h; have := hlo g e; omega⟩))
                    have hsz9 := hb9.size
                    simp only [World.size_alloc] at hsz9
                    replace hF := (hF.other (.cells #[.int .i64 f, .int .i64 b, .slice oy1 P.length cy1, .int .i64 lk, .slice oy2 M.length cy2] 64)).grownQ hg9 (fun g' hg => by have := hOw.ge g' hg; omega) (fun p hp e => by have := hOw.ge _ e; simp only [List.mem_cons, List.not_mem_nil, or_false] at hp; rcases hp with rfl | rfl; exact hne e; simp at this <;> omega)
                    have hDlt := hD.lt
                    replace hD := (hD.alloc (.cells #[.int .i64 f, .int .i64 b, .slice oy1 P.length cy1, .int .i64 lk, .slice oy2 M.length cy2] 64)).grown hg9 (fun g' h1 h2 => hap g' h2 h1)
                    replace hap := Apart.frsh' hap hf9 (fun g hg => by have := hDlt g hg; simp only [World.size_alloc]; omega)
                    replace hne := frsh_off hf9 hne (by simp only [World.size_alloc]; omega)
                    obtain ⟨a9, c9, rfl⟩ := hO2.sl
                    obtain ⟨n9, hn9⟩ : ∃ n9, Hid ((L ++ [(f, b, lk, P, M)]).length = n9) := ⟨_, rfl⟩
                    rw [hn9.out] at hO2 hne hap ⊢
                    clear hg9 hb9 hf9 hO9 hOw hG o hlG
                    have o := hF.own; simp only [World.size_alloc, World.size_drew, World.size_setCell, List.mem_cons, List.not_mem_nil, or_false, forall_eq_or_imp, forall_eq, At, and_true, Nat.zero_add, Nat.reduceAdd, List.set_cons_zero, List.set_cons_succ] at o
                    refine hK.out _ _ ?hs (fun hHeld => ?_)
                    case hs => ((try dsimp only); exact ⟨Fb.old (by repeat (first | with_reducible exact hF | with_reducible apply Fb.drew | with_reducible apply Fb.other)) E5.out.1, Fb.old (by repeat (first | with_reducible exact hF | with_reducible apply Fb.drew | with_reducible apply Fb.other)) E5.out.2.1, Fb.old (by repeat (first | with_reducible exact hF | with_reducible apply Fb.drew | with_reducible apply Fb.other)) E5.out.2.2.1, Fb.old (by repeat (first | with_reducible exact hF | with_reducible apply Fb.drew | with_reducible apply Fb.other)) E5.out.2.2.2.1, Fb.old (by repeat (first | with_reducible exact hF | with_reducible apply Fb.drew | with_reducible apply Fb.other)) E5.out.2.2.2.2⟩)
                    clear hK KK
                    (try simp only [Act.put, List.setIfInBounds_toArray, List.set_cons_zero, List.set_cons_succ])
                    refine wpAnyH_take (i := 9) (oi := _) (v := ?_) (by simp only [List.getElem?_toArray, List.getElem?_cons_succ, List.getElem?_cons_zero]; rfl) (by kernel_rfl) (by kernel_rfl) (by kernel_rfl) (by exact fun _ _ _ h => h) (Or.inl ⟨by rfl, ?hy⟩) (by assumption) ?_
                    case hy => (intro w hSw; (try dsimp only at hSw); go_simp; (try with_reducible rfl))
                    (try simp only [Act.put, List.setIfInBounds_toArray, List.set_cons_zero, List.set_cons_succ])
                    refine wpAnyH_ready (rs := [10]) (by kernel_rfl) (by simp) ?_
                    refine AllReadyH.cons (o := _) (by simp only [List.getElem?_toArray, List.getElem?_cons_succ, List.getElem?_cons_zero]; rfl) (fun KK hK => ?_) AllReadyH.nil
                    go_simp
                    replace hF := hF.set 1 (.slice a9 n9 c9) (by simp) (by simp <;> omega)
                    replace hD := hD.put' (E' := 62) (p := ⟨n0 + 1 + 1 + 1, 1, none⟩) hne3 (.slice a9 n9 c9)
                    have hO := hO2.put (p := ⟨n0 + 1 + 1 + 1, 1, none⟩) hne (by dsimp only; omega) (.slice a9 n9 c9)
                    refine hK.out _ _ ?hs (fun hHeld => ?_)
                    case hs => ((try dsimp only); exact ⟨Fb.old (by repeat (first | with_reducible exact hF | with_reducible apply Fb.drew | with_reducible apply Fb.other)) E5.out.1, Fb.old (by repeat (first | with_reducible exact hF | with_reducible apply Fb.drew | with_reducible apply Fb.other)) E5.out.2.1, Fb.old (by repeat (first | with_reducible exact hF | with_reducible apply Fb.drew | with_reducible apply Fb.other)) E5.out.2.2.1, Fb.old (by repeat (first | with_reducible exact hF | with_reducible apply Fb.drew | with_reducible apply Fb.other)) E5.out.2.2.2.1, Fb.old (by repeat (first | with_reducible exact hF | with_reducible apply Fb.drew | with_reducible apply Fb.other)) E5.out.2.2.2.2⟩)
                    clear hK KK
                    (try simp only [Act.put, List.setIfInBounds_toArray, List.set_cons_zero, List.set_cons_succ])
                    refine wpAnyH_done (by kernel_rfl) ?_ _
                    clear hO2 o
                    have o := hF.own; simp only [World.size_alloc, World.size_drew, World.size_setCell, List.mem_cons, List.not_mem_nil, or_false, forall_eq_or_imp, forall_eq, At, and_true, Nat.zero_add, Nat.reduceAdd, List.set_cons_zero, List.set_cons_succ] at o
                    go_wp2_with fail
                    go_roundw
                    case rel => exact ⟨j + 1, _, L ++ [(f, b, lk, P, M)], by go_num, by omega, by simp; omega, hne, hap, by simp only [World.size_setCell]; omega, HSx, hD, hO, hF⟩
                    case measure => simp [intOf]; omega
              · have dN : decide (N < 0) = false := decide_eq_false hN0
                obtain ⟨k, rfl⟩ := Int.eq_ofNat_of_zero_le (show 0 ≤ N by omega)
                have hkn : k < n := by have := hn.out; omega
                obtain ⟨b3, p3, rfl⟩ := GLs.adr HV1.out (by omega)
                obtain ⟨s, hs⟩ := get_of hn.out hkn
                obtain ⟨f2, b2, lk2, P2, M2⟩ := s
                obtain ⟨a3, m3, c3, a4, m4, c4, ⟨g0, g1, g2, g3, g4⟩, j1, j2⟩ := Ris.at HV1.out hs
                obtain ⟨N2, hN2⟩ : ∃ N2, rts f2 b2 lk2 P2 M2 f b lk P M = N2 := ⟨_, rfl⟩
                have cC := Lib.hid (fun z : Cl w3.heap.size w3 => (show Calls Try.prog 46 #[.agg #[.int .i64 f2, .int .i64 b2, .slice a3 m3 c3, .int .i64 lk2, .slice a4 m4 c4], .agg #[.int .i64 f, .int .i64 b, .slice a1 m1 c1, .int .i64 lk, .slice a2 m2 c2]] z.W fun e w' => e = .returned (.int .i64 N2) ∧ Below z.W.heap.size z.W w' from by
                  have := l4Cmp_any f2 b2 lk2 _ _ P2 M2 f b lk _ _ P M z.W (j1.below (hF.cl z).kp).1 (j2.below (hF.cl z).kp).1 (HI.out.1.below (hF.cl z).kp).1 (HI.out.2.below (hF.cl z).kp).1
                  rwa [hN2] at this))
                have x0 := fun z : Cl w3.heap.size w3 => Cl.old hF z E5.out.1
                have x1 := fun z : Cl w3.heap.size w3 => Cl.old hF z E5.out.2.1
                have x2 := fun z : Cl w3.heap.size w3 => Cl.old hF z E5.out.2.2.1
                have x3 := fun z : Cl w3.heap.size w3 => Cl.old hF z E5.out.2.2.2.1
                have x4 := fun z : Cl w3.heap.size w3 => Cl.old hF z E5.out.2.2.2.2
                have z0 := fun z : Cl w3.heap.size w3 => Cl.old hF z g0
                have z1 := fun z : Cl w3.heap.size w3 => Cl.old hF z g1
                have z2 := fun z : Cl w3.heap.size w3 => Cl.old hF z g2
                have z3 := fun z : Cl w3.heap.size w3 => Cl.old hF z g3
                have z4 := fun z : Cl w3.heap.size w3 => Cl.old hF z g4
                clear hs g0 g1 g2 g3 g4 j1 j2 hN2 hN0 hN o
                by_cases hz : N2 = 0
                · have d2 : (N2 != 0) = false := by simp [hz]
                  clear hz
                  go_wp2
                  first | refine wp_region_new (by kernel_rfl) (by kernel_rfl) ?_ | refine wp_region_lex ?_
                  repeat (any_goals (first | go_big_quiet_step (((go_at_call 46; exact Calls.cl (cC.out _)))) | (refine wpQuiet_step (fun K hK => ?_); go_simp; split <;> (rename_i hg; refine hK _ ?_; clear hK K; simp only [hg, decide_true, decide_false]))))
                  all_goals (refine wpQuiet_nil ?_; intro x)
                  clear x0 x1 x2 x3 x4 z0 z1 z2 z3 z4 cC
                  obtain ⟨wq, hbq⟩ := x
                  replace hF := hF.below hbq
                  replace hD := hD.below hbq
                  replace hO := hO.below hbq
                  have hzq := hbq.size
                  dsimp only
                  clear hbq
                  have o := hF.own; simp only [World.size_alloc, World.size_drew, World.size_setCell, List.mem_cons, List.not_mem_nil, or_false, forall_eq_or_imp, forall_eq, At, and_true, Nat.zero_add, Nat.reduceAdd, List.set_cons_zero, List.set_cons_succ] at o
                  go_wp2_with fail
                  go_roundw
                  case rel => exact ⟨j + 1, _, L, by go_num, by omega, by omega, hne, hap, by omega, HLs, hD, hO, hF⟩
                  case measure => simp [intOf]; omega
                · have d2 : (N2 != 0) = true := by simp [hz]
                  clear hz
                  go_wp2
                  first | refine wp_region_new (by kernel_rfl) (by kernel_rfl) ?_ | refine wp_region_lex ?_
                  repeat (any_goals (first | go_big_quiet_step (((go_at_call 46; exact Calls.cl (cC.out _)))) | (refine wpQuiet_step (fun K hK => ?_); go_simp; split <;> (rename_i hg; refine hK _ ?_; clear hK K; simp only [hg, decide_true, decide_false]))))
                  all_goals (refine wpQuiet_nil ?_; intro x)
                  clear x0 x1 x2 x3 x4 z0 z1 z2 z3 z4 cC
                  obtain ⟨wq, hbq⟩ := x
                  replace hF := hF.below hbq
                  replace hD := hD.below hbq
                  replace hO := hO.below hbq
                  have hzq := hbq.size
                  dsimp only
                  clear hbq
                  have o := hF.own; simp only [World.size_alloc, World.size_drew, World.size_setCell, List.mem_cons, List.not_mem_nil, or_false, forall_eq_or_imp, forall_eq, At, and_true, Nat.zero_add, Nat.reduceAdd, List.set_cons_zero, List.set_cons_succ] at o
                  go_upto_region 14 with (fail)
                  refine wp_region_held_drew (S := fun w' => w'.cell? ⟨b1, p1 + j * 5, none⟩ = some (.int .i64 f) ∧ w'.cell? ⟨b1, p1 + j * 5 + 1, none⟩ = some (.int .i64 b) ∧ w'.cell? ⟨b1, p1 + j * 5 + 2, none⟩ = some (.slice a1 m1 c1) ∧ w'.cell? ⟨b1, p1 + j * 5 + 3, none⟩ = some (.int .i64 lk) ∧ w'.cell? ⟨b1, p1 + j * 5 + 4, none⟩ = some (.slice a2 m2 c2)) (by kernel_rfl) ?hs (fun hHeld => ?_)
                  case hs => exact ⟨Fb.old (by repeat (first | with_reducible exact hF | with_reducible apply Fb.drew | with_reducible apply Fb.other)) E5.out.1, Fb.old (by repeat (first | with_reducible exact hF | with_reducible apply Fb.drew | with_reducible apply Fb.other)) E5.out.2.1, Fb.old (by repeat (first | with_reducible exact hF | with_reducible apply Fb.drew | with_reducible apply Fb.other)) E5.out.2.2.1, Fb.old (by repeat (first | with_reducible exact hF | with_reducible apply Fb.drew | with_reducible apply Fb.other)) E5.out.2.2.2.1, Fb.old (by repeat (first | with_reducible exact hF | with_reducible apply Fb.drew | with_reducible apply Fb.other)) E5.out.2.2.2.2⟩
                  refine wpAnyH_take (i := 0) (oi := _) (v := ?_) (by simp only [List.getElem?_toArray, List.getElem?_cons_succ, List.getElem?_cons_zero]; rfl) (by kernel_rfl) (by kernel_rfl) (by kernel_rfl) (by exact fun _ _ _ h => h) (Or.inl ⟨by rfl, ?hy⟩) (by assumption) ?_
                  case hy => (intro w hSw; (try dsimp only at hSw); go_simp; (try with_reducible rfl))
                  (try simp only [Act.put, List.setIfInBounds_toArray, List.set_cons_zero, List.set_cons_succ])
                  refine wpAnyH_take (i := 2) (oi := _) (v := ?_) (by simp only [List.getElem?_toArray, List.getElem?_cons_succ, List.getElem?_cons_zero]; rfl) (by kernel_rfl) (by kernel_rfl) (by kernel_rfl) (by exact fun _ _ _ h => h) (Or.inl ⟨by rfl, ?hy⟩) (by assumption) ?_
                  case hy => (intro w hSw; (try dsimp only at hSw); go_simp; (try with_reducible rfl))
                  (try simp only [Act.put, List.setIfInBounds_toArray, List.set_cons_zero, List.set_cons_succ])
                  refine wpAnyH_take (i := 3) (oi := _) (v := ?_) (by simp only [List.getElem?_toArray, List.getElem?_cons_succ, List.getElem?_cons_zero]; rfl) (by kernel_rfl) (by kernel_rfl) (by kernel_rfl) (by exact fun _ _ _ h => h) (Or.inl ⟨by rfl, ?hy⟩) (by assumption) ?_
                  case hy => (intro w hSw; (try dsimp only at hSw); go_simp; (try with_reducible rfl))
                  (try simp only [Act.put, List.setIfInBounds_toArray, List.set_cons_zero, List.set_cons_succ])
                  refine wpAnyH_take (i := 4) (oi := _) (v := ?_) (by simp only [List.getElem?_toArray, List.getElem?_cons_succ, List.getElem?_cons_zero]; rfl) (by kernel_rfl) (by kernel_rfl) (by kernel_rfl) (by exact fun _ _ _ h => h) (Or.inl ⟨by rfl, ?hy⟩) (by assumption) ?_
                  case hy => (intro w hSw; (try dsimp only at hSw); go_simp; (try with_reducible rfl))
                  (try simp only [Act.put, List.setIfInBounds_toArray, List.set_cons_zero, List.set_cons_succ])
                  refine wpAnyH_take (i := 5) (oi := _) (v := ?_) (by simp only [List.getElem?_toArray, List.getElem?_cons_succ, List.getElem?_cons_zero]; rfl) (by kernel_rfl) (by kernel_rfl) (by kernel_rfl) (by exact fun _ _ _ h => h) (Or.inl ⟨by rfl, ?hy⟩) (by assumption) ?_
                  case hy => (intro w hSw; (try dsimp only at hSw); go_simp; (try with_reducible rfl))
                  (try simp only [Act.put, List.setIfInBounds_toArray, List.set_cons_zero, List.set_cons_succ])
                  refine wpAnyH_ready (rs := [1, 6]) (by kernel_rfl) (by simp) ?_
                  refine AllReadyH.cons (o := _) (by simp only [List.getElem?_toArray, List.getElem?_cons_succ, List.getElem?_cons_zero]; rfl) (fun KK hK => ?_) (AllReadyH.cons (o := _) (by simp only [List.getElem?_toArray, List.getElem?_cons_succ, List.getElem?_cons_zero]; rfl) (fun KK hK => ?_) AllReadyH.nil)
                  · go_simp
                    refine hK.out _ _ ?hs (fun hHeld => ?_)
                    case hs => ((try dsimp only); exact ⟨Fb.old (by repeat (first | with_reducible exact hF | with_reducible apply Fb.drew | with_reducible apply Fb.other)) E5.out.1, Fb.old (by repeat (first | with_reducible exact hF | with_reducible apply Fb.drew | with_reducible apply Fb.other)) E5.out.2.1, Fb.old (by repeat (first | with_reducible exact hF | with_reducible apply Fb.drew | with_reducible apply Fb.other)) E5.out.2.2.1, Fb.old (by repeat (first | with_reducible exact hF | with_reducible apply Fb.drew | with_reducible apply Fb.other)) E5.out.2.2.2.1, Fb.old (by repeat (first | with_reducible exact hF | with_reducible apply Fb.drew | with_reducible apply Fb.other)) E5.out.2.2.2.2⟩)
                    clear hK KK
                    (try simp only [Act.put, List.setIfInBounds_toArray, List.set_cons_zero, List.set_cons_succ])
                    refine wpAnyH_ready (rs := [6]) (by kernel_rfl) (by simp) ?_
                    refine AllReadyH.cons (o := _) (by simp only [List.getElem?_toArray, List.getElem?_cons_succ, List.getElem?_cons_zero]; rfl) (fun KK hK => ?_) AllReadyH.nil
                    go_simp
                    (go_at_call 36; go_must (refine (l4Copy_any f b lk _ _ P M _ (It.below HI.out.1 (Fb.kp (W := w) (by repeat (first | with_reducible exact hF | with_reducible apply Fb.drew | with_reducible apply Fb.other)))) (It.below HI.out.2 (Fb.kp (W := w) (by repeat (first | with_reducible exact hF | with_reducible apply Fb.drew | with_reducible apply Fb.other)))) (by have := HSS.out.2.2.2.1.1; dsimp only at this; omega) (by have := HSS.out.2.2.2.2; dsimp only at this; omega)).mono ?_); rintro e wy ⟨pv9, mv9, rfl, y1, y2, hby⟩; obtain ⟨oy1, cy1, rfl, -⟩ := y1.1.1.ex; obtain ⟨oy2, cy2, rfl, -⟩ := y2.1.1.ex; have hlo := hO.lt; have hsy := hby.size; simp only [World.size_drew] at hsy y1 y2; replace hF := Fb.below (by repeat (first | with_reducible exact hF | with_reducible apply Fb.drew | with_reducible apply Fb.other)) hby; replace hO := GO2.below (by repeat (first | with_reducible exact hO | with_reducible apply GO2.drew | with_reducible apply GO2.alloc)) hby; replace hD := Own.below (by repeat (first | with_reducible exact hD | with_reducible apply Own.drew | with_reducible apply Own.alloc)) hby; clear hby o; have o := hF.own; simp only [World.size_alloc, World.size_drew, World.size_setCell, List.mem_cons, List.not_mem_nil, or_false, forall_eq_or_imp, forall_eq, At, and_true, Nat.zero_add, Nat.reduceAdd, List.set_cons_zero, List.set_cons_succ] at o)
                    (try go_wp2_with fail)
                    refine hK.out _ _ ?hs (fun hHeld => ?_)
                    case hs => ((try dsimp only); exact ⟨Fb.old (by repeat (first | with_reducible exact hF | with_reducible apply Fb.drew | with_reducible apply Fb.other)) E5.out.1, Fb.old (by repeat (first | with_reducible exact hF | with_reducible apply Fb.drew | with_reducible apply Fb.other)) E5.out.2.1, Fb.old (by repeat (first | with_reducible exact hF | with_reducible apply Fb.drew | with_reducible apply Fb.other)) E5.out.2.2.1, Fb.old (by repeat (first | with_reducible exact hF | with_reducible apply Fb.drew | with_reducible apply Fb.other)) E5.out.2.2.2.1, Fb.old (by repeat (first | with_reducible exact hF | with_reducible apply Fb.drew | with_reducible apply Fb.other)) E5.out.2.2.2.2⟩)
                    clear hK KK
                    (try simp only [Act.put, List.setIfInBounds_toArray, List.set_cons_zero, List.set_cons_succ])
                    refine wpAnyH_ready (rs := [7]) (by kernel_rfl) (by simp) ?_
                    refine AllReadyH.cons (o := _) (by simp only [List.getElem?_toArray, List.getElem?_cons_succ, List.getElem?_cons_zero]; rfl) (fun KK hK => ?_) AllReadyH.nil
                    go_simp
                    refine hK.out _ _ ?hs (fun hHeld => ?_)
                    case hs => ((try dsimp only); exact ⟨Fb.old (by repeat (first | with_reducible exact hF | with_reducible apply Fb.drew | with_reducible apply Fb.other)) E5.out.1, Fb.old (by repeat (first | with_reducible exact hF | with_reducible apply Fb.drew | with_reducible apply Fb.other)) E5.out.2.1, Fb.old (by repeat (first | with_reducible exact hF | with_reducible apply Fb.drew | with_reducible apply Fb.other)) E5.out.2.2.1, Fb.old (by repeat (first | with_reducible exact hF | with_reducible apply Fb.drew | with_reducible apply Fb.other)) E5.out.2.2.2.1, Fb.old (by repeat (first | with_reducible exact hF | with_reducible apply Fb.drew | with_reducible apply Fb.other)) E5.out.2.2.2.2⟩)
                    clear hK KK
                    (try simp only [Act.put, List.setIfInBounds_toArray, List.set_cons_zero, List.set_cons_succ])
                    refine wpAnyH_ready (rs := [8]) (by kernel_rfl) (by simp) ?_
                    refine AllReadyH.cons (o := _) (by simp only [List.getElem?_toArray, List.getElem?_cons_succ, List.getElem?_cons_zero]; rfl) (fun KK hK => ?_) AllReadyH.nil
                    (obtain ⟨ds, hOw, hG⟩ := hO; have hlG := hG.1; refine step_app (by rfl) _ _ 30 (by rfl) 64 (.agg #[.int .i64 0, .int .i64 0, .slice none 0 0, .int .i64 0, .slice none 0 0]) 5 72 Try.underlying30 infoRt rfl (by decide) (by decide) (n0 + 1) encRt _ ds rfl (hOw.alloc _) (⟨f, b, lk, .slice oy1 P.length cy1, .slice oy2 M.length cy2⟩ : RtD) ⟨_, 0, none⟩ 1 rfl rfl (cells_new _ _ _) (by simp [encRt, Value.oneCell']) (by have := hnk.out; omega) (by simp only [World.size_alloc]; omega) ?_)
                    intro v9 wz hO9 hg9 hb9 hf9
                    have hO2 := go2_snocI (s := (f, b, lk, P, M)) hG ((Below.refl _ _).alloc (Nat.le_refl _) _) hO9 hg9 hf9 (Sh.below (S := shRi) ⟨⟨rfl, rfl, rfl⟩, y1.1, y2.1⟩ ((Below.refl _ _).alloc (Nat.le_refl _) _)) (sub2 (fun g h => ⟨by have := y1.2 g h; omega, by have := y1.2 g h; simp only [World.size_alloc]; omega, fun e => by have := y1.2 g h; have := hlo g e; omega⟩) (fun g h => ⟨by have := y2.2 g h; omega, by have := y2.2 g h; simp only [World.size_alloc]; omega, fun e => by have := y2.2 g h; have := hlo g e; omega⟩))
                    have hsz9 := hb9.size
                    simp only [World.size_alloc] at hsz9
                    replace hF := (hF.other (.cells #[.int .i64 f, .int .i64 b, .slice oy1 P.length cy1, .int .i64 lk, .slice oy2 M.length cy2] 64)).grownQ hg9 (fun g' hg => by have := hOw.ge g' hg; omega) (fun p hp e => by have := hOw.ge _ e; simp only [List.mem_cons, List.not_mem_nil, or_false] at hp; rcases hp with rfl | rfl; exact hne e; simp at this <;> omega)
                    have hDlt := hD.lt
                    replace hD := (hD.alloc (.cells #[.int .i64 f, .int .i64 b, .slice oy1 P.length cy1, .int .i64 lk, .slice oy2 M.length cy2] 64)).grown hg9 (fun g' h1 h2 => hap g' h2 h1)
                    replace hap := Apart.frsh' hap hf9 (fun g hg => by have := hDlt g hg; simp only [World.size_alloc]; omega)
                    replace hne := frsh_off hf9 hne (by simp only [World.size_alloc]; omega)
                    obtain ⟨a9, c9, rfl⟩ := hO2.sl
                    obtain ⟨n9, hn9⟩ : ∃ n9, Hid ((L ++ [(f, b, lk, P, M)]).length = n9) := ⟨_, rfl⟩
                    rw [hn9.out] at hO2 hne hap ⊢
                    clear hg9 hb9 hf9 hO9 hOw hG o hlG
                    have o := hF.own; simp only [World.size_alloc, World.size_drew, World.size_setCell, List.mem_cons, List.not_mem_nil, or_false, forall_eq_or_imp, forall_eq, At, and_true, Nat.zero_add, Nat.reduceAdd, List.set_cons_zero, List.set_cons_succ] at o
                    refine hK.out _ _ ?hs (fun hHeld => ?_)
                    case hs => ((try dsimp only); exact ⟨Fb.old (by repeat (first | with_reducible exact hF | with_reducible apply Fb.drew | with_reducible apply Fb.other)) E5.out.1, Fb.old (by repeat (first | with_reducible exact hF | with_reducible apply Fb.drew | with_reducible apply Fb.other)) E5.out.2.1, Fb.old (by repeat (first | with_reducible exact hF | with_reducible apply Fb.drew | with_reducible apply Fb.other)) E5.out.2.2.1, Fb.old (by repeat (first | with_reducible exact hF | with_reducible apply Fb.drew | with_reducible apply Fb.other)) E5.out.2.2.2.1, Fb.old (by repeat (first | with_reducible exact hF | with_reducible apply Fb.drew | with_reducible apply Fb.other)) E5.out.2.2.2.2⟩)
                    clear hK KK
                    (try simp only [Act.put, List.setIfInBounds_toArray, List.set_cons_zero, List.set_cons_succ])
                    refine wpAnyH_take (i := 9) (oi := _) (v := ?_) (by simp only [List.getElem?_toArray, List.getElem?_cons_succ, List.getElem?_cons_zero]; rfl) (by kernel_rfl) (by kernel_rfl) (by kernel_rfl) (by exact fun _ _ _ h => h) (Or.inl ⟨by rfl, ?hy⟩) (by assumption) ?_
                    case hy => (intro w hSw; (try dsimp only at hSw); go_simp; (try with_reducible rfl))
                    (try simp only [Act.put, List.setIfInBounds_toArray, List.set_cons_zero, List.set_cons_succ])
                    refine wpAnyH_ready (rs := [10]) (by kernel_rfl) (by simp) ?_
                    refine AllReadyH.cons (o := _) (by simp only [List.getElem?_toArray, List.getElem?_cons_succ, List.getElem?_cons_zero]; rfl) (fun KK hK => ?_) AllReadyH.nil
                    go_simp
                    replace hF := hF.set 1 (.slice a9 n9 c9) (by simp) (by simp <;> omega)
                    replace hD := hD.put' (E' := 62) (p := ⟨n0 + 1 + 1 + 1, 1, none⟩) hne3 (.slice a9 n9 c9)
                    have hO := hO2.put (p := ⟨n0 + 1 + 1 + 1, 1, none⟩) hne (by dsimp only; omega) (.slice a9 n9 c9)
                    refine hK.out _ _ ?hs (fun hHeld => ?_)
                    case hs => ((try dsimp only); exact ⟨Fb.old (by repeat (first | with_reducible exact hF | with_reducible apply Fb.drew | with_reducible apply Fb.other)) E5.out.1, Fb.old (by repeat (first | with_reducible exact hF | with_reducible apply Fb.drew | with_reducible apply Fb.other)) E5.out.2.1, Fb.old (by repeat (first | with_reducible exact hF | with_reducible apply Fb.drew | with_reducible apply Fb.other)) E5.out.2.2.1, Fb.old (by repeat (first | with_reducible exact hF | with_reducible apply Fb.drew | with_reducible apply Fb.other)) E5.out.2.2.2.1, Fb.old (by repeat (first | with_reducible exact hF | with_reducible apply Fb.drew | with_reducible apply Fb.other)) E5.out.2.2.2.2⟩)
                    clear hK KK
                    (try simp only [Act.put, List.setIfInBounds_toArray, List.set_cons_zero, List.set_cons_succ])
                    refine wpAnyH_done (by kernel_rfl) ?_ _
                    clear hO2 o
                    have o := hF.own; simp only [World.size_alloc, World.size_drew, World.size_setCell, List.mem_cons, List.not_mem_nil, or_false, forall_eq_or_imp, forall_eq, At, and_true, Nat.zero_add, Nat.reduceAdd, List.set_cons_zero, List.set_cons_succ] at o
                    go_wp2_with fail
                    go_roundw
                    case rel => exact ⟨j + 1, _, L ++ [(f, b, lk, P, M)], by go_num, by omega, by simp; omega, hne, hap, by simp only [World.size_setCell]; omega, HSx, hD, hO, hF⟩
                    case measure => simp [intOf]; omega
                  ·
                    go_simp
                    (go_at_call 36; go_must (refine (l4Copy_any f b lk _ _ P M _ (It.below HI.out.1 (Fb.kp (W := w) (by repeat (first | with_reducible exact hF | with_reducible apply Fb.drew | with_reducible apply Fb.other)))) (It.below HI.out.2 (Fb.kp (W := w) (by repeat (first | with_reducible exact hF | with_reducible apply Fb.drew | with_reducible apply Fb.other)))) (by have := HSS.out.2.2.2.1.1; dsimp only at this; omega) (by have := HSS.out.2.2.2.2; dsimp only at this; omega)).mono ?_); rintro e wy ⟨pv9, mv9, rfl, y1, y2, hby⟩; obtain ⟨oy1, cy1, rfl, -⟩ := y1.1.1.ex; obtain ⟨oy2, cy2, rfl, -⟩ := y2.1.1.ex; have hlo := hO.lt; have hsy := hby.size; simp only [World.size_drew] at hsy y1 y2; replace hF := Fb.below (by repeat (first | with_reducible exact hF | with_reducible apply Fb.drew | with_reducible apply Fb.other)) hby; replace hO := GO2.below (by repeat (first | with_reducible exact hO | with_reducible apply GO2.drew | with_reducible apply GO2.alloc)) hby; replace hD := Own.below (by repeat (first | with_reducible exact hD | with_reducible apply Own.drew | with_reducible apply Own.alloc)) hby; clear hby o; have o := hF.own; simp only [World.size_alloc, World.size_drew, World.size_setCell, List.mem_cons, List.not_mem_nil, or_false, forall_eq_or_imp, forall_eq, At, and_true, Nat.zero_add, Nat.reduceAdd, List.set_cons_zero, List.set_cons_succ] at o)
                    (try go_wp2_with fail)
                    refine hK.out _ _ ?hs (fun hHeld => ?_)
                    case hs => ((try dsimp only); exact ⟨Fb.old (by repeat (first | with_reducible exact hF | with_reducible apply Fb.drew | with_reducible apply Fb.other)) E5.out.1, Fb.old (by repeat (first | with_reducible exact hF | with_reducible apply Fb.drew | with_reducible apply Fb.other)) E5.out.2.1, Fb.old (by repeat (first | with_reducible exact hF | with_reducible apply Fb.drew | with_reducible apply Fb.other)) E5.out.2.2.1, Fb.old (by repeat (first | with_reducible exact hF | with_reducible apply Fb.drew | with_reducible apply Fb.other)) E5.out.2.2.2.1, Fb.old (by repeat (first | with_reducible exact hF | with_reducible apply Fb.drew | with_reducible apply Fb.other)) E5.out.2.2.2.2⟩)
                    clear hK KK
                    (try simp only [Act.put, List.setIfInBounds_toArray, List.set_cons_zero, List.set_cons_succ])
                    refine wpAnyH_ready (rs := [1, 7]) (by kernel_rfl) (by simp) ?_
                    refine AllReadyH.cons (o := _) (by simp only [List.getElem?_toArray, List.getElem?_cons_succ, List.getElem?_cons_zero]; rfl) (fun KK hK => ?_) (AllReadyH.cons (o := _) (by simp only [List.getElem?_toArray, List.getElem?_cons_succ, List.getElem?_cons_zero]; rfl) (fun KK hK => ?_) AllReadyH.nil)
                    · go_simp
                      refine hK.out _ _ ?hs (fun hHeld => ?_)
                      case hs => ((try dsimp only); exact ⟨Fb.old (by repeat (first | with_reducible exact hF | with_reducible apply Fb.drew | with_reducible apply Fb.other)) E5.out.1, Fb.old (by repeat (first | with_reducible exact hF | with_reducible apply Fb.drew | with_reducible apply Fb.other)) E5.out.2.1, Fb.old (by repeat (first | with_reducible exact hF | with_reducible apply Fb.drew | with_reducible apply Fb.other)) E5.out.2.2.1, Fb.old (by repeat (first | with_reducible exact hF | with_reducible apply Fb.drew | with_reducible apply Fb.other)) E5.out.2.2.2.1, Fb.old (by repeat (first | with_reducible exact hF | with_reducible apply Fb.drew | with_reducible apply Fb.other)) E5.out.2.2.2.2⟩)
                      clear hK KK
                      (try simp only [Act.put, List.setIfInBounds_toArray, List.set_cons_zero, List.set_cons_succ])
                      refine wpAnyH_ready (rs := [7]) (by kernel_rfl) (by simp) ?_
                      refine AllReadyH.cons (o := _) (by simp only [List.getElem?_toArray, List.getElem?_cons_succ, List.getElem?_cons_zero]; rfl) (fun KK hK => ?_) AllReadyH.nil
                      go_simp
                      refine hK.out _ _ ?hs (fun hHeld => ?_)
                      case hs => ((try dsimp only); exact ⟨Fb.old (by repeat (first | with_reducible exact hF | with_reducible apply Fb.drew | with_reducible apply Fb.other)) E5.out.1, Fb.old (by repeat (first | with_reducible exact hF | with_reducible apply Fb.drew | with_reducible apply Fb.other)) E5.out.2.1, Fb.old (by repeat (first | with_reducible exact hF | with_reducible apply Fb.drew | with_reducible apply Fb.other)) E5.out.2.2.1, Fb.old (by repeat (first | with_reducible exact hF | with_reducible apply Fb.drew | with_reducible apply Fb.other)) E5.out.2.2.2.1, Fb.old (by repeat (first | with_reducible exact hF | with_reducible apply Fb.drew | with_reducible apply Fb.other)) E5.out.2.2.2.2⟩)
                      clear hK KK
                      (try simp only [Act.put, List.setIfInBounds_toArray, List.set_cons_zero, List.set_cons_succ])
                      refine wpAnyH_ready (rs := [8]) (by kernel_rfl) (by simp) ?_
                      refine AllReadyH.cons (o := _) (by simp only [List.getElem?_toArray, List.getElem?_cons_succ, List.getElem?_cons_zero]; rfl) (fun KK hK => ?_) AllReadyH.nil
                      (obtain ⟨ds, hOw, hG⟩ := hO; have hlG := hG.1; refine step_app (by rfl) _ _ 30 (by rfl) 64 (.agg #[.int .i64 0, .int .i64 0, .slice none 0 0, .int .i64 0, .slice none 0 0]) 5 72 Try.underlying30 infoRt rfl (by decide) (by decide) (n0 + 1) encRt _ ds rfl (hOw.alloc _) (⟨f, b, lk, .slice oy1 P.length cy1, .slice oy2 M.length cy2⟩ : RtD) ⟨_, 0, none⟩ 1 rfl rfl (cells_new _ _ _) (by simp [encRt, Value.oneCell']) (by have := hnk.out; omega) (by simp only [World.size_alloc]; omega) ?_)
                      intro v9 wz hO9 hg9 hb9 hf9
                      have hO2 := go2_snocI (s := (f, b, lk, P, M)) hG ((Below.refl _ _).alloc (Nat.le_refl _) _) hO9 hg9 hf9 (Sh.below (S := shRi) ⟨⟨rfl, rfl, rfl⟩, y1.1, y2.1⟩ ((Below.refl _ _).alloc (Nat.le_refl _) _)) (sub2 (fun g h => ⟨by have := y1.2 g h; omega, by have := y1.2 g h; simp only [World.size_alloc]; omega, fun e => by have := y1.2 g h; have := hlo g e; omega⟩) (fun g h => ⟨by have := y2.2 g h; omega, by have := y2.2 g h; simp only [World.size_alloc]; omega, fun e => by have := y2.2 g h; have := hlo g e; omega⟩))
                      have hsz9 := hb9.size
                      simp only [World.size_alloc] at hsz9
                      replace hF := (hF.other (.cells #[.int .i64 f, .int .i64 b, .slice oy1 P.length cy1, .int .i64 lk, .slice oy2 M.length cy2] 64)).grownQ hg9 (fun g' hg => by have := hOw.ge g' hg; omega) (fun p hp e => by have := hOw.ge _ e; simp only [List.mem_cons, List.not_mem_nil, or_false] at hp; rcases hp with rfl | rfl; exact hne e; simp at this <;> omega)
                      have hDlt := hD.lt
                      replace hD := (hD.alloc (.cells #[.int .i64 f, .int .i64 b, .slice oy1 P.length cy1, .int .i64 lk, .slice oy2 M.length cy2] 64)).grown hg9 (fun g' h1 h2 => hap g' h2 h1)
                      replace hap := Apart.frsh' hap hf9 (fun g hg => by have := hDlt g hg; simp only [World.size_alloc]; omega)
                      replace hne := frsh_off hf9 hne (by simp only [World.size_alloc]; omega)
                      obtain ⟨a9, c9, rfl⟩ := hO2.sl
                      obtain ⟨n9, hn9⟩ : ∃ n9, Hid ((L ++ [(f, b, lk, P, M)]).length = n9) := ⟨_, rfl⟩
                      rw [hn9.out] at hO2 hne hap ⊢
                      clear hg9 hb9 hf9 hO9 hOw hG o hlG
                      have o := hF.own; simp only [World.size_alloc, World.size_drew, World.size_setCell, List.mem_cons, List.not_mem_nil, or_false, forall_eq_or_imp, forall_eq, At, and_true, Nat.zero_add, Nat.reduceAdd, List.set_cons_zero, List.set_cons_succ] at o
                      refine hK.out _ _ ?hs (fun hHeld => ?_)
                      case hs => ((try dsimp only); exact ⟨Fb.old (by repeat (first | with_reducible exact hF | with_reducible apply Fb.drew | with_reducible apply Fb.other)) E5.out.1, Fb.old (by repeat (first | with_reducible exact hF | with_reducible apply Fb.drew | with_reducible apply Fb.other)) E5.out.2.1, Fb.old (by repeat (first | with_reducible exact hF | with_reducible apply Fb.drew | with_reducible apply Fb.other)) E5.out.2.2.1, Fb.old (by repeat (first | with_reducible exact hF | with_reducible apply Fb.drew | with_reducible apply Fb.other)) E5.out.2.2.2.1, Fb.old (by repeat (first | with_reducible exact hF | with_reducible apply Fb.drew | with_reducible apply Fb.other)) E5.out.2.2.2.2⟩)
                      clear hK KK
                      (try simp only [Act.put, List.setIfInBounds_toArray, List.set_cons_zero, List.set_cons_succ])
                      refine wpAnyH_take (i := 9) (oi := _) (v := ?_) (by simp only [List.getElem?_toArray, List.getElem?_cons_succ, List.getElem?_cons_zero]; rfl) (by kernel_rfl) (by kernel_rfl) (by kernel_rfl) (by exact fun _ _ _ h => h) (Or.inl ⟨by rfl, ?hy⟩) (by assumption) ?_
                      case hy => (intro w hSw; (try dsimp only at hSw); go_simp; (try with_reducible rfl))
                      (try simp only [Act.put, List.setIfInBounds_toArray, List.set_cons_zero, List.set_cons_succ])
                      refine wpAnyH_ready (rs := [10]) (by kernel_rfl) (by simp) ?_
                      refine AllReadyH.cons (o := _) (by simp only [List.getElem?_toArray, List.getElem?_cons_succ, List.getElem?_cons_zero]; rfl) (fun KK hK => ?_) AllReadyH.nil
                      go_simp
                      replace hF := hF.set 1 (.slice a9 n9 c9) (by simp) (by simp <;> omega)
                      replace hD := hD.put' (E' := 62) (p := ⟨n0 + 1 + 1 + 1, 1, none⟩) hne3 (.slice a9 n9 c9)
                      have hO := hO2.put (p := ⟨n0 + 1 + 1 + 1, 1, none⟩) hne (by dsimp only; omega) (.slice a9 n9 c9)
                      refine hK.out _ _ ?hs (fun hHeld => ?_)
                      case hs => ((try dsimp only); exact ⟨Fb.old (by repeat (first | with_reducible exact hF | with_reducible apply Fb.drew | with_reducible apply Fb.other)) E5.out.1, Fb.old (by repeat (first | with_reducible exact hF | with_reducible apply Fb.drew | with_reducible apply Fb.other)) E5.out.2.1, Fb.old (by repeat (first | with_reducible exact hF | with_reducible apply Fb.drew | with_reducible apply Fb.other)) E5.out.2.2.1, Fb.old (by repeat (first | with_reducible exact hF | with_reducible apply Fb.drew | with_reducible apply Fb.other)) E5.out.2.2.2.1, Fb.old (by repeat (first | with_reducible exact hF | with_reducible apply Fb.drew | with_reducible apply Fb.other)) E5.out.2.2.2.2⟩)
                      clear hK KK
                      (try simp only [Act.put, List.setIfInBounds_toArray, List.set_cons_zero, List.set_cons_succ])
                      refine wpAnyH_done (by kernel_rfl) ?_ _
                      clear hO2 o
                      have o := hF.own; simp only [World.size_alloc, World.size_drew, World.size_setCell, List.mem_cons, List.not_mem_nil, or_false, forall_eq_or_imp, forall_eq, At, and_true, Nat.zero_add, Nat.reduceAdd, List.set_cons_zero, List.set_cons_succ] at o
                      go_wp2_with fail
                      go_roundw
                      case rel => exact ⟨j + 1, _, L ++ [(f, b, lk, P, M)], by go_num, by omega, by simp; omega, hne, hap, by simp only [World.size_setCell]; omega, HSx, hD, hO, hF⟩
                      case measure => simp [intOf]; omega
                    · go_simp
                      refine hK.out _ _ ?hs (fun hHeld => ?_)
                      case hs => ((try dsimp only); exact ⟨Fb.old (by repeat (first | with_reducible exact hF | with_reducible apply Fb.drew | with_reducible apply Fb.other)) E5.out.1, Fb.old (by repeat (first | with_reducible exact hF | with_reducible apply Fb.drew | with_reducible apply Fb.other)) E5.out.2.1, Fb.old (by repeat (first | with_reducible exact hF | with_reducible apply Fb.drew | with_reducible apply Fb.other)) E5.out.2.2.1, Fb.old (by repeat (first | with_reducible exact hF | with_reducible apply Fb.drew | with_reducible apply Fb.other)) E5.out.2.2.2.1, Fb.old (by repeat (first | with_reducible exact hF | with_reducible apply Fb.drew | with_reducible apply Fb.other)) E5.out.2.2.2.2⟩)
                      clear hK KK
                      (try simp only [Act.put, List.setIfInBounds_toArray, List.set_cons_zero, List.set_cons_succ])
                      refine wpAnyH_ready (rs := [1]) (by kernel_rfl) (by simp) ?_
                      refine AllReadyH.cons (o := _) (by simp only [List.getElem?_toArray, List.getElem?_cons_succ, List.getElem?_cons_zero]; rfl) (fun KK hK => ?_) AllReadyH.nil
                      go_simp
                      refine hK.out _ _ ?hs (fun hHeld => ?_)
                      case hs => ((try dsimp only); exact ⟨Fb.old (by repeat (first | with_reducible exact hF | with_reducible apply Fb.drew | with_reducible apply Fb.other)) E5.out.1, Fb.old (by repeat (first | with_reducible exact hF | with_reducible apply Fb.drew | with_reducible apply Fb.other)) E5.out.2.1, Fb.old (by repeat (first | with_reducible exact hF | with_reducible apply Fb.drew | with_reducible apply Fb.other)) E5.out.2.2.1, Fb.old (by repeat (first | with_reducible exact hF | with_reducible apply Fb.drew | with_reducible apply Fb.other)) E5.out.2.2.2.1, Fb.old (by repeat (first | with_reducible exact hF | with_reducible apply Fb.drew | with_reducible apply Fb.other)) E5.out.2.2.2.2⟩)
                      clear hK KK
                      (try simp only [Act.put, List.setIfInBounds_toArray, List.set_cons_zero, List.set_cons_succ])
                      refine wpAnyH_ready (rs := [8]) (by kernel_rfl) (by simp) ?_
                      refine AllReadyH.cons (o := _) (by simp only [List.getElem?_toArray, List.getElem?_cons_succ, List.getElem?_cons_zero]; rfl) (fun KK hK => ?_) AllReadyH.nil
                      (obtain ⟨ds, hOw, hG⟩ := hO; have hlG := hG.1; refine step_app (by rfl) _ _ 30 (by rfl) 64 (.agg #[.int .i64 0, .int .i64 0, .slice none 0 0, .int .i64 0, .slice none 0 0]) 5 72 Try.underlying30 infoRt rfl (by decide) (by decide) (n0 + 1) encRt _ ds rfl (hOw.alloc _) (⟨f, b, lk, .slice oy1 P.length cy1, .slice oy2 M.length cy2⟩ : RtD) ⟨_, 0, none⟩ 1 rfl rfl (cells_new _ _ _) (by simp [encRt, Value.oneCell']) (by have := hnk.out; omega) (by simp only [World.size_alloc]; omega) ?_)
                      intro v9 wz hO9 hg9 hb9 hf9
                      have hO2 := go2_snocI (s := (f, b, lk, P, M)) hG ((Below.refl _ _).alloc (Nat.le_refl _) _) hO9 hg9 hf9 (Sh.below (S := shRi) ⟨⟨rfl, rfl, rfl⟩, y1.1, y2.1⟩ ((Below.refl _ _).alloc (Nat.le_refl _) _)) (sub2 (fun g h => ⟨by have := y1.2 g h; omega, by have := y1.2 g h; simp only [World.size_alloc]; omega, fun e => by have := y1.2 g h; have := hlo g e; omega⟩) (fun g h => ⟨by have := y2.2 g h; omega, by have := y2.2 g h; simp only [World.size_alloc]; omega, fun e => by have := y2.2 g h; have := hlo g e; omega⟩))
                      have hsz9 := hb9.size
                      simp only [World.size_alloc] at hsz9
                      replace hF := (hF.other (.cells #[.int .i64 f, .int .i64 b, .slice oy1 P.length cy1, .int .i64 lk, .slice oy2 M.length cy2] 64)).grownQ hg9 (fun g' hg => by have := hOw.ge g' hg; omega) (fun p hp e => by have := hOw.ge _ e; simp only [List.mem_cons, List.not_mem_nil, or_false] at hp; rcases hp with rfl | rfl; exact hne e; simp at this <;> omega)
                      have hDlt := hD.lt
                      replace hD := (hD.alloc (.cells #[.int .i64 f, .int .i64 b, .slice oy1 P.length cy1, .int .i64 lk, .slice oy2 M.length cy2] 64)).grown hg9 (fun g' h1 h2 => hap g' h2 h1)
                      replace hap := Apart.frsh' hap hf9 (fun g hg => by have := hDlt g hg; simp only [World.size_alloc]; omega)
                      replace hne := frsh_off hf9 hne (by simp only [World.size_alloc]; omega)
                      obtain ⟨a9, c9, rfl⟩ := hO2.sl
                      obtain ⟨n9, hn9⟩ : ∃ n9, Hid ((L ++ [(f, b, lk, P, M)]).length = n9) := ⟨_, rfl⟩
                      rw [hn9.out] at hO2 hne hap ⊢
                      clear hg9 hb9 hf9 hO9 hOw hG o hlG
                      have o := hF.own; simp only [World.size_alloc, World.size_drew, World.size_setCell, List.mem_cons, List.not_mem_nil, or_false, forall_eq_or_imp, forall_eq, At, and_true, Nat.zero_add, Nat.reduceAdd, List.set_cons_zero, List.set_cons_succ] at o
                      refine hK.out _ _ ?hs (fun hHeld => ?_)
                      case hs => ((try dsimp only); exact ⟨Fb.old (by repeat (first | with_reducible exact hF | with_reducible apply Fb.drew | with_reducible apply Fb.other)) E5.out.1, Fb.old (by repeat (first | with_reducible exact hF | with_reducible apply Fb.drew | with_reducible apply Fb.other)) E5.out.2.1, Fb.old (by repeat (first | with_reducible exact hF | with_reducible apply Fb.drew | with_reducible apply Fb.other)) E5.out.2.2.1, Fb.old (by repeat (first | with_reducible exact hF | with_reducible apply Fb.drew | with_reducible apply Fb.other)) E5.out.2.2.2.1, Fb.old (by repeat (first | with_reducible exact hF | with_reducible apply Fb.drew | with_reducible apply Fb.other)) E5.out.2.2.2.2⟩)
                      clear hK KK
                      (try simp only [Act.put, List.setIfInBounds_toArray, List.set_cons_zero, List.set_cons_succ])
                      refine wpAnyH_take (i := 9) (oi := _) (v := ?_) (by simp only [List.getElem?_toArray, List.getElem?_cons_succ, List.getElem?_cons_zero]; rfl) (by kernel_rfl) (by kernel_rfl) (by kernel_rfl) (by exact fun _ _ _ h => h) (Or.inl ⟨by rfl, ?hy⟩) (by assumption) ?_
                      case hy => (intro w hSw; (try dsimp only at hSw); go_simp; (try with_reducible rfl))
                      (try simp only [Act.put, List.setIfInBounds_toArray, List.set_cons_zero, List.set_cons_succ])
                      refine wpAnyH_ready (rs := [10]) (by kernel_rfl) (by simp) ?_
                      refine AllReadyH.cons (o := _) (by simp only [List.getElem?_toArray, List.getElem?_cons_succ, List.getElem?_cons_zero]; rfl) (fun KK hK => ?_) AllReadyH.nil
                      go_simp
                      replace hF := hF.set 1 (.slice a9 n9 c9) (by simp) (by simp <;> omega)
                      replace hD := hD.put' (E' := 62) (p := ⟨n0 + 1 + 1 + 1, 1, none⟩) hne3 (.slice a9 n9 c9)
                      have hO := hO2.put (p := ⟨n0 + 1 + 1 + 1, 1, none⟩) hne (by dsimp only; omega) (.slice a9 n9 c9)
                      refine hK.out _ _ ?hs (fun hHeld => ?_)
                      case hs => ((try dsimp only); exact ⟨Fb.old (by repeat (first | with_reducible exact hF | with_reducible apply Fb.drew | with_reducible apply Fb.other)) E5.out.1, Fb.old (by repeat (first | with_reducible exact hF | with_reducible apply Fb.drew | with_reducible apply Fb.other)) E5.out.2.1, Fb.old (by repeat (first | with_reducible exact hF | with_reducible apply Fb.drew | with_reducible apply Fb.other)) E5.out.2.2.1, Fb.old (by repeat (first | with_reducible exact hF | with_reducible apply Fb.drew | with_reducible apply Fb.other)) E5.out.2.2.2.1, Fb.old (by repeat (first | with_reducible exact hF | with_reducible apply Fb.drew | with_reducible apply Fb.other)) E5.out.2.2.2.2⟩)
                      clear hK KK
                      (try simp only [Act.put, List.setIfInBounds_toArray, List.set_cons_zero, List.set_cons_succ])
                      refine wpAnyH_done (by kernel_rfl) ?_ _
                      clear hO2 o
                      have o := hF.own; simp only [World.size_alloc, World.size_drew, World.size_setCell, List.mem_cons, List.not_mem_nil, or_false, forall_eq_or_imp, forall_eq, At, and_true, Nat.zero_add, Nat.reduceAdd, List.set_cons_zero, List.set_cons_succ] at o
                      go_wp2_with fail
                      go_roundw
                      case rel => exact ⟨j + 1, _, L ++ [(f, b, lk, P, M)], by go_num, by omega, by simp; omega, hne, hap, by simp only [World.size_setCell]; omega, HSx, hD, hO, hF⟩
                      case measure => simp [intOf]; omega
            · go_wp2_with fail
              have hF2 := hF.turn2
              clear hF o
              have hF := hF2
              clear hF2
              have o := hF.own; simp only [World.size_alloc, World.size_drew, World.size_setCell, List.mem_cons, List.not_mem_nil, or_false, forall_eq_or_imp, forall_eq, At, and_true, Nat.zero_add, Nat.reduceAdd, List.set_cons_zero, List.set_cons_succ] at o
              go_wp2_with fail
              obtain ⟨wz, hwz, hG, hDz, hOz⟩ := put2o hF (by simp <;> omega) hD (hO) (by omega) (by omega) (.slice au nD cu) (.slice at5 nk ct5)
              rw [← hwz]
              clear hwz o hF
              have hF := hG
              have o := hF.own; simp only [World.size_alloc, World.size_drew, World.size_setCell, List.mem_cons, List.not_mem_nil, or_false, forall_eq_or_imp, forall_eq, At, and_true, Nat.zero_add, Nat.reduceAdd, List.set_cons_zero, List.set_cons_succ] at o
              refine bodyPost_ret (v := .agg #[.slice au nD cu, .slice at5 nk ct5]) (by simp [results, Try.results33, go_sem, o]) rfl ?_
              exact ⟨_, _, _, _, rfl, hDz.base (by have := HN.out; omega), ⟨_, hOz.choose_spec.1.base (by have := HN.out; omega), hOz.choose_spec.2.mono (by have := HN.out; omega) (Nat.le_refl _)⟩, ⟨hDn, by have := hnk.out; omega⟩, HLs.out, hG.kp⟩
end Go.Proofs.Ytjkfnjjkjhggfaa
