/- FnRibForm: the walk. -/
import Derived.Test.YtonojegnbcgnaaaDoorZ22
import Derived.Test.YtonojegnbcgnaaaDoorZ23
import Derived.Test.YtonojegnbcgnaaaDoorZ24
set_option linter.unusedSimpArgs false
set_option linter.unusedVariables false
namespace Go.Proofs.YtonojegnbcgnaaaDoor
open Go.RowKit

/-- A row from R on, whose elements hold what lies from B on and below U. -/
def GO5 {δ β : Type} (S : Sh δ β) (E : TypeId) (w : World) (R B U : Nat) (v : Value) (L : List β) : Prop := ∃ ds, Own E w R v S.sz S.enc ds ∧ GRel S w B U v ds L
section
variable {δ β : Type} {S : Sh δ β} {E : TypeId} {w w' : World} {R B U : Nat} {v : Value} {L : List β}
theorem GOwn.go5 (h : GOwn S E w B v L) : GO5 S E w B B w.heap.size v L := h
theorem GO5.below (h : GO5 S E w R B U v L) (K : Below w.heap.size w w') : GO5 S E w' R B U v L := by
  obtain ⟨ds, h1, h2⟩ := h; exact ⟨ds, h1.below K, h2.below K⟩
theorem GO5.alloc (h : GO5 S E w R B U v L) (o : Obj) : GO5 S E (w.alloc o) R B U v L := h.below ((Below.refl _ _).alloc (Nat.le_refl _) _)
theorem GO5.drew (h : GO5 S E w R B U v L) : GO5 S E w.drew R B U v L := h.below (Below.refl _ _).drew
theorem GO5.put (h : GO5 S E w R B U v L) {p : Addr} (hv : v.ownBlock ≠ some p.block) (hp : p.block < B ∨ U ≤ p.block) (u : Value) : GO5 S E (w.setCell p u) R B U v L := by
  obtain ⟨ds, h1, h2⟩ := h
  exact ⟨ds, h1.put' (E' := E) hv u, h2.far (grown_setC w p u) (fun g hb hu e => by injection e with e; omega)⟩
theorem GO5.gls (h : GO5 S E w R B U v L) : GLs S w v L := by
  obtain ⟨ds, h1, h2⟩ := h
  exact ⟨ds, h1.rows S.len, h2.1, fun k s hk => by obtain ⟨d, a, b, -⟩ := h2.2 k s hk; exact ⟨d, a, b⟩⟩
theorem GO5.lt (h : GO5 S E w R B U v L) : ∀ g, v.ownBlock = some g → g < w.heap.size := by
  obtain ⟨ds, h1, h2⟩ := h; exact h1.lt
theorem GO5.ge (h : GO5 S E w R B U v L) : ∀ g, v.ownBlock = some g → R ≤ g := by
  obtain ⟨ds, h1, h2⟩ := h; exact h1.ge
theorem GO5.sl (h : GO5 S E w R B U v L) : ∃ ao cap, v = .slice ao L.length cap := by
  obtain ⟨ds, h1, h2⟩ := h
  obtain ⟨ao, cap, e⟩ := h1.sl
  exact ⟨ao, cap, by rw [← h2.1]; exact e⟩
theorem GO5.gown (h : GO5 S E w R B U v L) (hB : B ≤ R) (hU : U ≤ w.heap.size) : GOwn S E w B v L := by
  obtain ⟨ds, h1, h2⟩ := h
  exact ⟨ds, h1.base hB, h2.mono (Nat.le_refl _) hU⟩
end
theorem gown_form {δ β : Type} {S : Sh δ β} {E : TypeId} {w : World} {B : Nat} {v : Value} {L : List β} (h : GOwn S E w B v L) (hn : 0 < L.length) : ∃ g cap, v = .slice (some ⟨g, 0, none⟩) L.length cap := by
  obtain ⟨ds, h1, h2⟩ := h
  rcases Own.two h1 with ⟨-, h0⟩ | ⟨g, cap, n, e, -, hl⟩
  · have := h2.1; rw [h0] at this; simp at this; omega
  · exact ⟨g, cap, by rw [← h2.1, hl.out]; exact e⟩
/-- A new row of some of the elements of an old one, which share what they hold. -/
theorem go5_new {E : TypeId} {w w' : World} {B U R : Nat} {v u : Value} {ds es : List GtD} {L K : List Gt} (h : GRel shGt w B U v ds L) (hU : U ≤ R) (hb : Below w.heap.size w w') (hO : Own E w' R u 6 encGt es) (hl : es.length = K.length) (hk : ∀ (k : Nat) (s : Gt), K[k]? = some s → ∃ j : Nat, L[j]? = some s ∧ es[k]? = ds[j]?) : GO5 shGt E w' R B U u K :=
  ⟨es, hO, hl, fun k s hs => by
    obtain ⟨j, h1, h2⟩ := hk k s hs
    obtain ⟨d, a, b, c⟩ := h.2 j s h1
    exact ⟨d, h2.trans a, Sh.below b hb, fun x hx => ⟨fun g g1 g2 => (by have := (c x hx).2 g g1; have := hO.ge g g2; omega), fun g g1 => (c x hx).2 g g1⟩⟩⟩
theorem part_last {α β : Type} {ds : List α} {L : List β} (h : ds.length = L.length) {m : Nat} {d : α} {s : β} (hd : ds[m]? = some d) (hs : L[m]? = some s) : (ds ++ [d]).length = (L ++ [s]).length ∧ ∀ (k : Nat) (t : β), (L ++ [s])[k]? = some t → ∃ j : Nat, L[j]? = some t ∧ (ds ++ [d])[k]? = ds[j]? := by
  refine ⟨by simp [h], fun k t ht => ?_⟩
  by_cases hk : k < L.length
  · rw [List.getElem?_append_left hk] at ht
    exact ⟨k, ht, by rw [List.getElem?_append_left (by omega)]⟩
  · rw [List.getElem?_append_right (by omega)] at ht
    have hk0 : k - L.length = 0 := by
      have := (List.getElem?_eq_some_iff.1 ht).1
      simp at this; omega
    rw [hk0] at ht
    simp at ht
    subst ht
    refine ⟨m, hs, ?_⟩
    rw [List.getElem?_append_right (by omega), hd, h, hk0]
    rfl
theorem Fb.news {W w : World} {lb : Nat} {vs : List Value} {L : List (Nat × List Value)} (h : Fb W w ((lb, vs) :: L)) : ∀ j u, vs[j]? = some u → w.cell? ((⟨lb, 0, none⟩ : Addr).add j) = some u := fun j u hj => by
  have := Fb.get h (List.mem_cons_self ..) hj
  rw [addr_add]
  exact this
theorem own_made' {α : Type} (E : TypeId) {w : World} {B k sz : Nat} {enc : α → List Value} (hk : k = w.heap.size) (hB : B ≤ k) : Own E (w.alloc (.cells #[] E)) B (.slice (some ⟨k, 0, none⟩) 0 0) sz enc [] := by
  subst hk; exact Own.made _ _ _ _ _ hB
theorem set_far {w : World} {p a : Addr} {u v : Value} (h : w.cell? a = some v) (hp : p.block ≠ a.block) : (w.setCell p u).cell? a = some v := by
  rw [World.cell?_setCell_far _ _ _ _ hp]; exact h
section
variable {H H' : Int} {up : Bool} {L : List Gt} {n : Nat}
theorem rb_nohouse (h : RbOk H up L) (hn : 0 < L.length) (hH : H' ≠ H) : decide (RbOk H' up L) = false := decide_eq_false fun g => by
  obtain ⟨s, hs⟩ := get_lt hn
  have h1 := (rb_r hs (h.2 0 hn)).2.1
  have h2 := (rb_r hs (g.2 0 hn)).2.1
  exact hH (h2.symm.trans h1)
theorem rb_twice {m : Nat} {s : Gt} (hs : L[m]? = some s) (hm : m + 1 = L.length) : decide (RbOk H up (L ++ [s])) = false := decide_eq_false fun g => by
  have h1 := (g.2 (m + 1) (by simp; omega)).2 (by omega)
  have e1 : (L ++ [s])[m]? = some s := by rw [List.getElem?_append_left (by omega)]; exact hs
  have e2 : (L ++ [s])[m + 1]? = some s := by rw [List.getElem?_append_right (by omega)]; simp [hm]
  rw [show m + 1 - 1 = m by omega, gat_of e1, gat_of e2, rcS_self] at h1
  omega
theorem rb_noold {s : Gt} (hs : L[0]? = some s) : decide (RbOk H false (L.set 0 (s.1, false))) = false := decide_eq_false fun g => by
  have hn : 0 < L.length := (List.getElem?_eq_some_iff.1 hs).1
  have e : (L.set 0 (s.1, false))[0]? = some (s.1, false) := by simp [hn]
  have := (rb_r e (g.2 0 (by simp; exact hn))).2.2
  simp at this
end
set_option maxRecDepth 100000 in
set_option maxHeartbeats 8000000 in
theorem FnRibForm_walk (a0 : Option Addr) (n0 c0 : Nat) (a : Addr) (w : World) (h0 : Given w (.slice a0 n0 c0)) (hE : EPath w a) :
    Calls Tryd.prog 8 #[.slice a0 n0 c0] w fun e w' => e = .returned (.bool true) ∧ Below w.heap.size w w' := by
  by_cases hn0 : 1048576 < n0
  · have e0 : decide (1048576 < (n0 : Int)) = true := by simp; omega
    go_enter Tryd.func8, Tryd.ntmps8
    go_wp2
    go_ret
    exact ⟨rfl, Below.refl _ _⟩
  have e0 : decide (1048576 < (n0 : Int)) = false := by simp; omega
  have hF := Fb.start w
  go_enter Tryd.func8, Tryd.ntmps8
  go_wp2_with fail
  refine (drawRibOk_any _ _ h0).mono ?_; rintro e w1 ⟨H, up, v, L, rfl, hO, hL9, -, hb1⟩
  clear h0
  have HE0 := Lib.hid hE
  obtain ⟨ao, cap, rfl⟩ := hO.sl
  obtain ⟨n, hn⟩ : ∃ n, Hid (L.length = n) := ⟨_, rfl⟩
  rw [hn.out] at hO hL9 ⊢
  have hB := hb1.size
  replace hF := (hF.below hb1).alloc [.int .i64 H, .bool up, .slice ao n cap] 44
  replace hE := (hE.below hb1).below ((Below.refl _ _).alloc (Nat.le_refl _) (.cells #[.int .i64 H, .bool up, .slice ao n cap] 44))
  replace hO := hO.alloc (.cells #[.int .i64 H, .bool up, .slice ao n cap] 44)
  clear hb1
  obtain ⟨B, hBn⟩ : ∃ B, w.heap.size = B := ⟨_, rfl⟩
  have HB := Lib.hid hBn
  rw [hBn] at hB hO
  clear hBn
  obtain ⟨n3, hn3⟩ : ∃ n3, w1.heap.size = n3 := ⟨_, rfl⟩
  rw [hn3] at hF hB
  have o := hF.own; simp only [World.size_alloc, World.size_drew, World.size_setCell, List.mem_cons, List.not_mem_nil, or_false, forall_eq_or_imp, forall_eq, At, and_true, Nat.zero_add, Nat.reduceAdd, List.set_cons_zero, List.set_cons_succ] at o
  go_wp2_with fail
  refine (iRibOk_any H up _ L a _ hO.gls hE).mono ?_; rintro e w2 ⟨rfl, hb2⟩
  replace hF := hF.below hb2
  replace hE := hE.below hb2
  replace hO := hO.below hb2
  have hs2 := hb2.size
  simp only [World.size_alloc] at hs2
  have hs3 : n3 < w2.heap.size := by omega
  clear hb2 o hn3
  obtain ⟨bo, hbo⟩ : ∃ bo, decide (RbOk H up L) = bo := ⟨_, rfl⟩
  rw [hbo]
  have HX := Lib.hid hbo
  clear hbo
  have o := hF.own; simp only [World.size_alloc, World.size_drew, World.size_setCell, List.mem_cons, List.not_mem_nil, or_false, forall_eq_or_imp, forall_eq, At, and_true, Nat.zero_add, Nat.reduceAdd, List.set_cons_zero, List.set_cons_succ] at o
  go_wp2_with fail
  refine (sRibOk_any H up _ L w2 hO.gls).mono ?_; rintro e w3 ⟨rfl, hb3⟩
  rw [HX.out]
  replace hF := hF.below hb3
  replace hE := hE.below hb3
  replace hO := hO.below hb3
  have hs4 := hb3.size
  clear hb3 o
  have o := hF.own; simp only [World.size_alloc, World.size_drew, World.size_setCell, List.mem_cons, List.not_mem_nil, or_false, forall_eq_or_imp, forall_eq, At, and_true, Nat.zero_add, Nat.reduceAdd, List.set_cons_zero, List.set_cons_succ] at o
  cases bo with
  | false =>
    go_wp2_with fail
    refine (sRibOk_any _ _ _ L w3 hO.gls).mono ?_; rintro e w4 ⟨rfl, hb4⟩
    rw [HX.out]
    replace hF := hF.below hb4
    go_wp2
    go_ret
    exact ⟨rfl, hF.kp⟩
  | true =>
    have hok := Lib.hid (of_decide_eq_true HX.out)
    by_cases hz0 : n = 0
    · subst hz0
      go_wp2_with fail
      refine (sRibOk_any _ _ _ L w3 hO.gls).mono ?_; rintro e w4 ⟨rfl, hb4⟩
      rw [HX.out]
      replace hF := hF.below hb4
      go_wp2
      go_ret
      exact ⟨rfl, hF.kp⟩
    · have d0 : ((n : Int) == 0) = false := by simp; omega
      obtain ⟨m, hm1, hm2⟩ : ∃ m, m + 1 ≤ n ∧ n ≤ m + 1 := ⟨n - 1, by omega, by omega⟩
      have hsub : (n : Int) - 1 = (m : Int) := by omega
      have hlt1 : decide ((m : Int) < (n : Int)) = true := decide_eq_true (by omega)
      have hlt2 : m < n := by omega
      have hwm : IntKind.i64.wrap (m : Int) = (m : Int) := IntWalk.i64_in _ (by omega)
      have hlt3 : (m : Int) < (n : Int) := by omega
      have hlt4 : (0 : Int) ≤ (m : Int) := by omega
      obtain ⟨g9, cp, e9⟩ := gown_form hO (by have := hn.out; omega)
      injection e9 with e1 e2 e3
      subst e1
      clear e2 e3
      obtain ⟨q, hq⟩ : ∃ q : Int, H.tmod 5 = q := ⟨_, rfl⟩
      have hq3 : 0 ≤ q ∧ q < 5 ∧ q + 1 ≠ H := by
        have := hok.out.1.1
        unfold Bts at this
        have : H = 1 ∨ H = 2 ∨ H = 3 ∨ H = 4 ∨ H = 5 := by omega
        subst hq
        rcases this with rfl | rfl | rfl | rfl | rfl <;> decide
      obtain ⟨H5, hH5⟩ : ∃ H5 : Int, q + 1 = H5 := ⟨_, rfl⟩
      have hw5 : IntKind.i64.wrap H5 = H5 := IntWalk.i64_in _ (by omega)
      have HQ5 : Hid (H5 ≠ H) := by rw [← hH5]; exact hq3.2.2
      clear hq3
      replace hO := hO.go5
      have h9l := hO.lt g9 rfl
      have h9g := hO.ge g9 rfl
      go_upto_region 10 with (fail)
      have hF6 : Fb w ((w3.alloc (.cells #[.int .i64 H5, .bool up, .slice (some ⟨g9, 0, none⟩) n cap] 44)).alloc (.cells #[.int .i64 H, .bool up, .slice (some ⟨g9, 0, none⟩) n cap] 44)) [(w3.heap.size + 1, [.int .i64 H, .bool up, .slice (some ⟨g9, 0, none⟩) n cap]), (w3.heap.size, [.int .i64 H5, .bool up, .slice (some ⟨g9, 0, none⟩) n cap]), (n3, [.int .i64 H, .bool up, .slice (some ⟨g9, 0, none⟩) n cap])] := by
        have := (hF.alloc [.int .i64 H5, .bool up, .slice (some ⟨g9, 0, none⟩) n cap] 44).alloc [.int .i64 H, .bool up, .slice (some ⟨g9, 0, none⟩) n cap] 44
        simp only [World.size_alloc] at this
        exact this
      replace hO := (hO.alloc (.cells #[.int .i64 H5, .bool up, .slice (some ⟨g9, 0, none⟩) n cap] 44)).alloc (.cells #[.int .i64 H, .bool up, .slice (some ⟨g9, 0, none⟩) n cap] 44)
      have hsw : ((w3.alloc (.cells #[.int .i64 H5, .bool up, .slice (some ⟨g9, 0, none⟩) n cap] 44)).alloc (.cells #[.int .i64 H, .bool up, .slice (some ⟨g9, 0, none⟩) n cap] 44)).heap.size = w3.heap.size + 1 + 1 := by simp only [World.size_alloc]
      obtain ⟨wb, hwb⟩ : ∃ wb, ((w3.alloc (.cells #[.int .i64 H5, .bool up, .slice (some ⟨g9, 0, none⟩) n cap] 44)).alloc (.cells #[.int .i64 H, .bool up, .slice (some ⟨g9, 0, none⟩) n cap] 44)) = wb := ⟨_, rfl⟩
      rw [hwb] at hF6 hO hsw ⊢
      clear hwb hF o hE
      have hF := hF6
      clear hF6
      obtain ⟨n5, hn5⟩ : ∃ n5, w3.heap.size = n5 := ⟨_, rfl⟩
      rw [hn5] at hF hO hsw ⊢
      have h35 : n3 < n5 := by omega
      rw [hn5] at h9l
      clear hn5
      obtain ⟨n6, hn6⟩ : ∃ n6, n5 + 1 = n6 := ⟨_, rfl⟩
      rw [hn6] at hF hsw ⊢
      have h56 : n5 < n6 := by omega
      clear hn6
      obtain ⟨nb, hnb⟩ : ∃ nb, wb.heap.size = nb := ⟨_, rfl⟩
      have hnb1 : n6 + 1 ≤ nb := by omega
      have hnb2 : nb ≤ n6 + 1 := by omega
      clear hsw
      obtain ⟨s, hs⟩ := get_lt (L := L) (k := m) (by have := hn.out; omega)
      obtain ⟨ds, hOw, hRl⟩ := hO
      obtain ⟨d, e1, e2, e3⟩ := hRl.2 m s hs
      obtain ⟨df, db, dl, du, dv, dO⟩ := d
      obtain ⟨u1, v1, x1, rfl, _⟩ := Ints.sl e2.2.1.1
      obtain ⟨u2, v2, x2, rfl, _⟩ := Ints.sl e2.2.2.1
      have hc := fun j u hj => Rows.get (hOw.rows shGt.len) e1 (j := j) (u := u) hj
      simp only [Nat.zero_add] at hc
      have C3 : wb.cell? ⟨n3, 2, none⟩ = some (.slice (some ⟨g9, 0, none⟩) n cap) := Fb.get hF (List.mem_cons_of_mem _ (List.mem_cons_of_mem _ (List.mem_cons_self ..))) rfl
      have E7 : Hid (wb.cell? ⟨n3, 2, none⟩ = some (.slice (some ⟨g9, 0, none⟩) n cap) ∧ wb.cell? ⟨g9, m * 6, none⟩ = some (.int .i64 df) ∧ wb.cell? ⟨g9, m * 6 + 1, none⟩ = some (.int .i64 db) ∧ wb.cell? ⟨g9, m * 6 + 2, none⟩ = some (.slice u1 v1 x1) ∧ wb.cell? ⟨g9, m * 6 + 3, none⟩ = some (.int .i64 dl) ∧ wb.cell? ⟨g9, m * 6 + 4, none⟩ = some (.slice u2 v2 x2) ∧ wb.cell? ⟨g9, m * 6 + 5, none⟩ = some (.bool dO)) := ⟨C3, hc 0 _ rfl, hc 1 _ rfl, hc 2 _ rfl, hc 3 _ rfl, hc 4 _ rfl, hc 5 _ rfl⟩
      clear C3 hc e2 e3
      have HOw := Lib.hid hOw
      have HRl := Lib.hid hRl
      have HE1 := Lib.hid e1
      have HS1 := Lib.hid hs
      have HFw := Lib.hid hF
      clear hOw hRl e1 hs hF
      go_cut [6] (fun s6 wx => s6 = .pointer (some ⟨n6, 0, none⟩) ∧ ∃ (a6 : Option Addr) (k6 c6 : Nat), nb ≤ wx.heap.size ∧ GO5 shGt 48 wx nb B n5 (.slice a6 k6 c6) (L ++ [s]) ∧ GO5 shGt 48 wx B B n5 (.slice (some ⟨g9, 0, none⟩) n cap) L ∧ Fb w wx [(n6, [.int .i64 H, .bool up, .slice a6 k6 c6]), (n5, [.int .i64 H5, .bool up, .slice (some ⟨g9, 0, none⟩) n cap]), (n3, [.int .i64 H, .bool up, .slice (some ⟨g9, 0, none⟩) n cap])])
      case first =>
        have hQ := Fb.start wb
        refine wp_region_held_drew (S := fun w' => w'.cell? ⟨n3, 2, none⟩ = some (.slice (some ⟨g9, 0, none⟩) n cap) ∧ w'.cell? ⟨g9, m * 6, none⟩ = some (.int .i64 df) ∧ w'.cell? ⟨g9, m * 6 + 1, none⟩ = some (.int .i64 db) ∧ w'.cell? ⟨g9, m * 6 + 2, none⟩ = some (.slice u1 v1 x1) ∧ w'.cell? ⟨g9, m * 6 + 3, none⟩ = some (.int .i64 dl) ∧ w'.cell? ⟨g9, m * 6 + 4, none⟩ = some (.slice u2 v2 x2) ∧ w'.cell? ⟨g9, m * 6 + 5, none⟩ = some (.bool dO)) (by kernel_rfl) ?hs (fun hHeld => ?_)
        case hs => exact ⟨Fb.old (by repeat (first | with_reducible exact hQ | with_reducible apply Fb.drew | with_reducible apply Fb.other)) E7.out.1, Fb.old (by repeat (first | with_reducible exact hQ | with_reducible apply Fb.drew | with_reducible apply Fb.other)) E7.out.2.1, Fb.old (by repeat (first | with_reducible exact hQ | with_reducible apply Fb.drew | with_reducible apply Fb.other)) E7.out.2.2.1, Fb.old (by repeat (first | with_reducible exact hQ | with_reducible apply Fb.drew | with_reducible apply Fb.other)) E7.out.2.2.2.1, Fb.old (by repeat (first | with_reducible exact hQ | with_reducible apply Fb.drew | with_reducible apply Fb.other)) E7.out.2.2.2.2.1, Fb.old (by repeat (first | with_reducible exact hQ | with_reducible apply Fb.drew | with_reducible apply Fb.other)) E7.out.2.2.2.2.2.1, Fb.old (by repeat (first | with_reducible exact hQ | with_reducible apply Fb.drew | with_reducible apply Fb.other)) E7.out.2.2.2.2.2.2⟩
        refine wpAnyH_take (i := 1) (oi := _) (v := ?_) (by simp only [List.getElem?_toArray, List.getElem?_cons_succ, List.getElem?_cons_zero]; rfl) (by kernel_rfl) (by kernel_rfl) (by kernel_rfl) (by exact fun _ _ _ h => h) (Or.inl ⟨by rfl, ?hy⟩) (by assumption) ?_
        case hy => (intro w hSw; (try dsimp only at hSw); go_simp; (try with_reducible rfl))
        (try simp only [Act.put, List.setIfInBounds_toArray, List.set_cons_zero, List.set_cons_succ])
        refine wpAnyH_take (i := 2) (oi := _) (v := ?_) (by simp only [List.getElem?_toArray, List.getElem?_cons_succ, List.getElem?_cons_zero]; rfl) (by kernel_rfl) (by kernel_rfl) (by kernel_rfl) (by exact fun _ _ _ h => h) (Or.inl ⟨by rfl, ?hy⟩) (by assumption) ?_
        case hy => (intro w hSw; (try dsimp only at hSw); go_simp; (try with_reducible rfl))
        (try simp only [Act.put, List.setIfInBounds_toArray, List.set_cons_zero, List.set_cons_succ])
        refine wpAnyH_take (i := 4) (oi := _) (v := ?_) (by simp only [List.getElem?_toArray, List.getElem?_cons_succ, List.getElem?_cons_zero]; rfl) (by kernel_rfl) (by kernel_rfl) (by kernel_rfl) (by exact fun _ _ _ h => h) (Or.inl ⟨by rfl, ?hy⟩) (by assumption) ?_
        case hy => (intro w hSw; (try dsimp only at hSw); go_simp; (try with_reducible rfl))
        (try simp only [Act.put, List.setIfInBounds_toArray, List.set_cons_zero, List.set_cons_succ])
        refine wpAnyH_take (i := 5) (oi := _) (v := ?_) (by simp only [List.getElem?_toArray, List.getElem?_cons_succ, List.getElem?_cons_zero]; rfl) (by kernel_rfl) (by kernel_rfl) (by kernel_rfl) (by exact fun _ _ _ h => h) (Or.inl ⟨by rfl, ?hy⟩) (by assumption) ?_
        case hy => (intro w hSw; (try dsimp only at hSw); go_simp; (try with_reducible rfl))
        (try simp only [Act.put, List.setIfInBounds_toArray, List.set_cons_zero, List.set_cons_succ])
        refine wpAnyH_take (i := 6) (oi := _) (v := ?_) (by simp only [List.getElem?_toArray, List.getElem?_cons_succ, List.getElem?_cons_zero]; rfl) (by kernel_rfl) (by kernel_rfl) (by kernel_rfl) (by exact fun _ _ _ h => h) (Or.inl ⟨by rfl, ?hy⟩) (by assumption) ?_
        case hy => (intro w hSw; (try dsimp only at hSw); go_simp; (try with_reducible rfl))
        (try simp only [Act.put, List.setIfInBounds_toArray, List.set_cons_zero, List.set_cons_succ])
        refine wpAnyH_take (i := 7) (oi := _) (v := ?_) (by simp only [List.getElem?_toArray, List.getElem?_cons_succ, List.getElem?_cons_zero]; rfl) (by kernel_rfl) (by kernel_rfl) (by kernel_rfl) (by exact fun _ _ _ h => h) (Or.inl ⟨by rfl, ?hy⟩) (by assumption) ?_
        case hy => (intro w hSw; (try dsimp only at hSw); go_simp; (try with_reducible rfl))
        (try simp only [Act.put, List.setIfInBounds_toArray, List.set_cons_zero, List.set_cons_succ])
        refine wpAnyH_take (i := 8) (oi := _) (v := ?_) (by simp only [List.getElem?_toArray, List.getElem?_cons_succ, List.getElem?_cons_zero]; rfl) (by kernel_rfl) (by kernel_rfl) (by kernel_rfl) (by exact fun _ _ _ h => h) (Or.inl ⟨by rfl, ?hy⟩) (by assumption) ?_
        case hy => (intro w hSw; (try dsimp only at hSw); go_simp; (try with_reducible rfl))
        (try simp only [Act.put, List.setIfInBounds_toArray, List.set_cons_zero, List.set_cons_succ])
        refine wpAnyH_take (i := 9) (oi := _) (v := ?_) (by simp only [List.getElem?_toArray, List.getElem?_cons_succ, List.getElem?_cons_zero]; rfl) (by kernel_rfl) (by kernel_rfl) (by kernel_rfl) (by exact fun _ _ _ h => h) (Or.inl ⟨by rfl, ?hy⟩) (by assumption) ?_
        case hy => (intro w hSw; (try dsimp only at hSw); go_simp; (try with_reducible rfl))
        (try simp only [Act.put, List.setIfInBounds_toArray, List.set_cons_zero, List.set_cons_succ])
        refine wpAnyH_take (i := 10) (oi := _) (v := ?_) (by simp only [List.getElem?_toArray, List.getElem?_cons_succ, List.getElem?_cons_zero]; rfl) (by kernel_rfl) (by kernel_rfl) (by kernel_rfl) (by exact fun _ _ _ h => h) (Or.inl ⟨by rfl, ?hy⟩) (by assumption) ?_
        case hy => (intro w hSw; (try dsimp only at hSw); go_simp; (try with_reducible rfl))
        (try simp only [Act.put, List.setIfInBounds_toArray, List.set_cons_zero, List.set_cons_succ])
        refine wpAnyH_take (i := 11) (oi := _) (v := ?_) (by simp only [List.getElem?_toArray, List.getElem?_cons_succ, List.getElem?_cons_zero]; rfl) (by kernel_rfl) (by kernel_rfl) (by kernel_rfl) (by exact fun _ _ _ h => h) (Or.inl ⟨by rfl, ?hy⟩) (by assumption) ?_
        case hy => (intro w hSw; (try dsimp only at hSw); go_simp; (try with_reducible rfl))
        (try simp only [Act.put, List.setIfInBounds_toArray, List.set_cons_zero, List.set_cons_succ])
        have hOne := Lib.hid HRl.out.one
        refine wpAnyH_ready (rs := [0, 12]) (by kernel_rfl) (by simp) ?_
        refine AllReadyH.cons (o := _) (by simp only [List.getElem?_toArray, List.getElem?_cons_succ, List.getElem?_cons_zero]; rfl) (fun KK hK => ?_) (AllReadyH.cons (o := _) (by simp only [List.getElem?_toArray, List.getElem?_cons_succ, List.getElem?_cons_zero]; rfl) (fun KK hK => ?_) AllReadyH.nil)
        ·
          go_simp
          refine hK.out _ _ ?hs (fun hHeld => ?_)
          case hs => ((try dsimp only); exact ⟨Fb.old (by repeat (first | with_reducible exact hQ | with_reducible apply Fb.drew | with_reducible apply Fb.other)) E7.out.1, Fb.old (by repeat (first | with_reducible exact hQ | with_reducible apply Fb.drew | with_reducible apply Fb.other)) E7.out.2.1, Fb.old (by repeat (first | with_reducible exact hQ | with_reducible apply Fb.drew | with_reducible apply Fb.other)) E7.out.2.2.1, Fb.old (by repeat (first | with_reducible exact hQ | with_reducible apply Fb.drew | with_reducible apply Fb.other)) E7.out.2.2.2.1, Fb.old (by repeat (first | with_reducible exact hQ | with_reducible apply Fb.drew | with_reducible apply Fb.other)) E7.out.2.2.2.2.1, Fb.old (by repeat (first | with_reducible exact hQ | with_reducible apply Fb.drew | with_reducible apply Fb.other)) E7.out.2.2.2.2.2.1, Fb.old (by repeat (first | with_reducible exact hQ | with_reducible apply Fb.drew | with_reducible apply Fb.other)) E7.out.2.2.2.2.2.2⟩)
          clear hK KK
          (try simp only [Act.put, List.setIfInBounds_toArray, List.set_cons_zero, List.set_cons_succ])
          refine wpAnyH_ready (rs := [3, 12]) (by kernel_rfl) (by simp) ?_
          refine AllReadyH.cons (o := _) (by simp only [List.getElem?_toArray, List.getElem?_cons_succ, List.getElem?_cons_zero]; rfl) (fun KK hK => ?_) (AllReadyH.cons (o := _) (by simp only [List.getElem?_toArray, List.getElem?_cons_succ, List.getElem?_cons_zero]; rfl) (fun KK hK => ?_) AllReadyH.nil)
          ·
            refine step_appsM (by rfl) _ _ 42 (by rfl) 48 (.agg #[.int .i64 0, .int .i64 0, .slice none 0 0, .int .i64 0, .slice none 0 0, .bool false]) 6 80 Tryd.underlying42 infoGt rfl (by decide) (by decide) nb encGt (fun _ => rfl) (.slice (some ⟨nb, 0, none⟩) 0 0) [] (by rfl) (by repeat (first | with_reducible exact own_made' _ (by (try simp only [World.size_alloc, World.size_drew]); omega) (by omega) | with_reducible apply Own.drew | with_reducible apply Own.alloc)) g9 0 n cap ds hOne.out (by rfl) (Rows.below (HOw.out.rows (fun _ => rfl)) (Fb.kp (W := wb) (by repeat (first | with_reducible exact hQ | with_reducible apply Fb.drew | with_reducible apply Fb.other)))) (by simp; omega) (by (try simp only [World.size_alloc, World.size_drew]); omega) ?_
            intro v8 w8 hO8 hg8 hb8 hf8
            rw [List.nil_append] at hO8
            replace hQ := Fb.grownQ (by repeat (first | with_reducible exact hQ | with_reducible apply Fb.drew | with_reducible apply Fb.other)) hg8 (fun g hg => by have hg' : some (nb) = some g := hg; injection hg' with hg'; omega) (fun p hp => by cases hp)
            have hs8 := Below.size (Fb.kp hQ)
            clear hg8 hb8 hf8
            refine hK.out _ _ ?hs (fun hHeld => ?_)
            case hs => ((try dsimp only); exact ⟨Fb.old (by repeat (first | with_reducible exact hQ | with_reducible apply Fb.drew | with_reducible apply Fb.other)) E7.out.1, Fb.old (by repeat (first | with_reducible exact hQ | with_reducible apply Fb.drew | with_reducible apply Fb.other)) E7.out.2.1, Fb.old (by repeat (first | with_reducible exact hQ | with_reducible apply Fb.drew | with_reducible apply Fb.other)) E7.out.2.2.1, Fb.old (by repeat (first | with_reducible exact hQ | with_reducible apply Fb.drew | with_reducible apply Fb.other)) E7.out.2.2.2.1, Fb.old (by repeat (first | with_reducible exact hQ | with_reducible apply Fb.drew | with_reducible apply Fb.other)) E7.out.2.2.2.2.1, Fb.old (by repeat (first | with_reducible exact hQ | with_reducible apply Fb.drew | with_reducible apply Fb.other)) E7.out.2.2.2.2.2.1, Fb.old (by repeat (first | with_reducible exact hQ | with_reducible apply Fb.drew | with_reducible apply Fb.other)) E7.out.2.2.2.2.2.2⟩)
            clear hK KK
            (try simp only [Act.put, List.setIfInBounds_toArray, List.set_cons_zero, List.set_cons_succ])
            refine wpAnyH_ready (rs := [12]) (by kernel_rfl) (by simp) ?_
            refine AllReadyH.cons (o := _) (by simp only [List.getElem?_toArray, List.getElem?_cons_succ, List.getElem?_cons_zero]; rfl) (fun KK hK => ?_) AllReadyH.nil
            go_simp
            have hQz : Fb wb (w8.alloc (.cells #[.int .i64 df, .int .i64 db, .slice u1 v1 x1, .int .i64 dl, .slice u2 v2 x2, .bool dO] 48)) [(w8.heap.size, [.int .i64 df, .int .i64 db, .slice u1 v1 x1, .int .i64 dl, .slice u2 v2 x2, .bool dO])] := by
              have := Fb.alloc (W := wb) (w := w8) (by repeat (first | with_reducible exact hQ | with_reducible apply Fb.drew | with_reducible apply Fb.other)) [.int .i64 df, .int .i64 db, .slice u1 v1 x1, .int .i64 dl, .slice u2 v2 x2, .bool dO] 48
              (try simp only [World.size_alloc, hnb] at this)
              exact this
            replace hQ := hQz
            clear hQz
            refine hK.out _ _ ?hs (fun hHeld => ?_)
            case hs => ((try dsimp only); exact ⟨Fb.old (by repeat (first | with_reducible exact hQ | with_reducible apply Fb.drew | with_reducible apply Fb.other)) E7.out.1, Fb.old (by repeat (first | with_reducible exact hQ | with_reducible apply Fb.drew | with_reducible apply Fb.other)) E7.out.2.1, Fb.old (by repeat (first | with_reducible exact hQ | with_reducible apply Fb.drew | with_reducible apply Fb.other)) E7.out.2.2.1, Fb.old (by repeat (first | with_reducible exact hQ | with_reducible apply Fb.drew | with_reducible apply Fb.other)) E7.out.2.2.2.1, Fb.old (by repeat (first | with_reducible exact hQ | with_reducible apply Fb.drew | with_reducible apply Fb.other)) E7.out.2.2.2.2.1, Fb.old (by repeat (first | with_reducible exact hQ | with_reducible apply Fb.drew | with_reducible apply Fb.other)) E7.out.2.2.2.2.2.1, Fb.old (by repeat (first | with_reducible exact hQ | with_reducible apply Fb.drew | with_reducible apply Fb.other)) E7.out.2.2.2.2.2.2⟩)
            clear hK KK
            (try simp only [Act.put, List.setIfInBounds_toArray, List.set_cons_zero, List.set_cons_succ])
            refine wpAnyH_ready (rs := [13]) (by kernel_rfl) (by simp) ?_
            refine AllReadyH.cons (o := _) (by simp only [List.getElem?_toArray, List.getElem?_cons_succ, List.getElem?_cons_zero]; rfl) (fun KK hK => ?_) AllReadyH.nil
            refine step_app (by rfl) _ _ 42 (by rfl) 48 (.agg #[.int .i64 0, .int .i64 0, .slice none 0 0, .int .i64 0, .slice none 0 0, .bool false]) 6 80 Tryd.underlying42 infoGt rfl (by decide) (by decide) nb encGt v8 ds rfl (by repeat (first | with_reducible exact hO8 | with_reducible apply Own.drew | with_reducible apply Own.alloc)) (⟨df, db, dl, .slice u1 v1 x1, .slice u2 v2 x2, dO⟩ : GtD) ⟨_, 0, none⟩ 1 rfl rfl (Fb.news (W := wb) (vs := [.int .i64 df, .int .i64 db, .slice u1 v1 x1, .int .i64 dl, .slice u2 v2 x2, .bool dO]) (by repeat (first | with_reducible exact hQ | with_reducible apply Fb.drew | with_reducible apply Fb.other))) (by simp [encGt, Value.oneCell']) (by have := HRl.out.1; have := hn.out; omega) (by (try simp only [World.size_alloc, World.size_drew]); omega) ?_
            intro v9 w9 hO9 hg9 hb9 hf9
            rw [← hnb] at hb9
            have hQB := Below.trans (Fb.kp (W := wb) (by repeat (first | with_reducible exact hQ | with_reducible apply Fb.drew | with_reducible apply Fb.other))) hb9
            replace hQ : Fb wb w9 [] := ⟨hQB, fun _ h => by cases h⟩
            clear hg9 hb9 hf9 hO8
            obtain ⟨a9, c9, rfl⟩ := hO9.sl
            obtain ⟨k9, hk9⟩ : ∃ k9, Hid ((ds ++ [(⟨df, db, dl, .slice u1 v1 x1, .slice u2 v2 x2, dO⟩ : GtD)]).length = k9) := ⟨_, rfl⟩
            rw [hk9.out] at hO9 ⊢
            have hF := HFw.out.below hQB
            have o := hF.own; simp only [World.size_alloc, World.size_drew, World.size_setCell, List.mem_cons, List.not_mem_nil, or_false, forall_eq_or_imp, forall_eq, At, and_true, Nat.zero_add, Nat.reduceAdd, List.set_cons_zero, List.set_cons_succ] at o
            refine hK.out _ _ ?hs (fun hHeld => ?_)
            case hs => ((try dsimp only); exact ⟨Fb.old (by repeat (first | with_reducible exact hQ | with_reducible apply Fb.drew | with_reducible apply Fb.other)) E7.out.1, Fb.old (by repeat (first | with_reducible exact hQ | with_reducible apply Fb.drew | with_reducible apply Fb.other)) E7.out.2.1, Fb.old (by repeat (first | with_reducible exact hQ | with_reducible apply Fb.drew | with_reducible apply Fb.other)) E7.out.2.2.1, Fb.old (by repeat (first | with_reducible exact hQ | with_reducible apply Fb.drew | with_reducible apply Fb.other)) E7.out.2.2.2.1, Fb.old (by repeat (first | with_reducible exact hQ | with_reducible apply Fb.drew | with_reducible apply Fb.other)) E7.out.2.2.2.2.1, Fb.old (by repeat (first | with_reducible exact hQ | with_reducible apply Fb.drew | with_reducible apply Fb.other)) E7.out.2.2.2.2.2.1, Fb.old (by repeat (first | with_reducible exact hQ | with_reducible apply Fb.drew | with_reducible apply Fb.other)) E7.out.2.2.2.2.2.2⟩)
            clear hK KK
            (try simp only [Act.put, List.setIfInBounds_toArray, List.set_cons_zero, List.set_cons_succ])
            refine wpAnyH_take (i := 14) (oi := _) (v := ?_) (by simp only [List.getElem?_toArray, List.getElem?_cons_succ, List.getElem?_cons_zero]; rfl) (by kernel_rfl) (by kernel_rfl) (by kernel_rfl) (by exact fun _ _ _ h => h) (Or.inl ⟨by rfl, ?hy⟩) (by assumption) ?_
            case hy => (intro w hSw; (try dsimp only at hSw); go_simp; (try with_reducible rfl))
            (try simp only [Act.put, List.setIfInBounds_toArray, List.set_cons_zero, List.set_cons_succ])
            refine wpAnyH_ready (rs := [15]) (by kernel_rfl) (by simp) ?_
            refine AllReadyH.cons (o := _) (by simp only [List.getElem?_toArray, List.getElem?_cons_succ, List.getElem?_cons_zero]; rfl) (fun KK hK => ?_) AllReadyH.nil
            go_simp
            refine hK.out _ _ ?hs (fun hHeld => ?_)
            case hs => ((try dsimp only); exact ⟨set_far (Fb.old (by repeat (first | with_reducible exact hQ | with_reducible apply Fb.drew | with_reducible apply Fb.other)) E7.out.1) (by dsimp only; omega), set_far (Fb.old (by repeat (first | with_reducible exact hQ | with_reducible apply Fb.drew | with_reducible apply Fb.other)) E7.out.2.1) (by dsimp only; omega), set_far (Fb.old (by repeat (first | with_reducible exact hQ | with_reducible apply Fb.drew | with_reducible apply Fb.other)) E7.out.2.2.1) (by dsimp only; omega), set_far (Fb.old (by repeat (first | with_reducible exact hQ | with_reducible apply Fb.drew | with_reducible apply Fb.other)) E7.out.2.2.2.1) (by dsimp only; omega), set_far (Fb.old (by repeat (first | with_reducible exact hQ | with_reducible apply Fb.drew | with_reducible apply Fb.other)) E7.out.2.2.2.2.1) (by dsimp only; omega), set_far (Fb.old (by repeat (first | with_reducible exact hQ | with_reducible apply Fb.drew | with_reducible apply Fb.other)) E7.out.2.2.2.2.2.1) (by dsimp only; omega), set_far (Fb.old (by repeat (first | with_reducible exact hQ | with_reducible apply Fb.drew | with_reducible apply Fb.other)) E7.out.2.2.2.2.2.2) (by dsimp only; omega)⟩)
            clear hK KK
            (try simp only [Act.put, List.setIfInBounds_toArray, List.set_cons_zero, List.set_cons_succ])
            refine wpAnyH_done (by kernel_rfl) ?_ _
            have hz9 := hQB.size
            go_wp2_with fail
            go_meet
            case rel => exact ⟨rfl, a9, k9, c9, by simp only [World.size_setCell]; omega, (go5_new HRl.out (by omega) hQB hO9 (part_last HRl.out.1 HE1.out HS1.out).1 (part_last HRl.out.1 HE1.out HS1.out).2).put (fun e => by have := hO9.ge n6 e; omega) (Or.inr (by dsimp only; omega)) _, (show GO5 shGt 48 w9 B B n5 (.slice (some ⟨g9, 0, none⟩) n cap) L from ⟨ds, HOw.out.below hQB, HRl.out.below hQB⟩).put (fun e => by injection e with e; dsimp only at e; omega) (Or.inr (by dsimp only; omega)) _, hF.set 2 (.slice a9 k9 c9) (by simp) (by simp <;> omega)⟩
          ·
            go_simp
            have hQz : Fb wb ((wb.alloc (.cells #[] 48)).alloc (.cells #[.int .i64 df, .int .i64 db, .slice u1 v1 x1, .int .i64 dl, .slice u2 v2 x2, .bool dO] 48)) [(nb + 1, [.int .i64 df, .int .i64 db, .slice u1 v1 x1, .int .i64 dl, .slice u2 v2 x2, .bool dO])] := by
              have := Fb.alloc (W := wb) (w := (wb.alloc (.cells #[] 48))) (by repeat (first | with_reducible exact hQ | with_reducible apply Fb.drew | with_reducible apply Fb.other)) [.int .i64 df, .int .i64 db, .slice u1 v1 x1, .int .i64 dl, .slice u2 v2 x2, .bool dO] 48
              (try simp only [World.size_alloc, hnb] at this)
              exact this
            replace hQ := hQz
            clear hQz
            refine hK.out _ _ ?hs (fun hHeld => ?_)
            case hs => ((try dsimp only); exact ⟨Fb.old (by repeat (first | with_reducible exact hQ | with_reducible apply Fb.drew | with_reducible apply Fb.other)) E7.out.1, Fb.old (by repeat (first | with_reducible exact hQ | with_reducible apply Fb.drew | with_reducible apply Fb.other)) E7.out.2.1, Fb.old (by repeat (first | with_reducible exact hQ | with_reducible apply Fb.drew | with_reducible apply Fb.other)) E7.out.2.2.1, Fb.old (by repeat (first | with_reducible exact hQ | with_reducible apply Fb.drew | with_reducible apply Fb.other)) E7.out.2.2.2.1, Fb.old (by repeat (first | with_reducible exact hQ | with_reducible apply Fb.drew | with_reducible apply Fb.other)) E7.out.2.2.2.2.1, Fb.old (by repeat (first | with_reducible exact hQ | with_reducible apply Fb.drew | with_reducible apply Fb.other)) E7.out.2.2.2.2.2.1, Fb.old (by repeat (first | with_reducible exact hQ | with_reducible apply Fb.drew | with_reducible apply Fb.other)) E7.out.2.2.2.2.2.2⟩)
            clear hK KK
            (try simp only [Act.put, List.setIfInBounds_toArray, List.set_cons_zero, List.set_cons_succ])
            refine wpAnyH_ready (rs := [3]) (by kernel_rfl) (by simp) ?_
            refine AllReadyH.cons (o := _) (by simp only [List.getElem?_toArray, List.getElem?_cons_succ, List.getElem?_cons_zero]; rfl) (fun KK hK => ?_) AllReadyH.nil
            refine step_appsM (by rfl) _ _ 42 (by rfl) 48 (.agg #[.int .i64 0, .int .i64 0, .slice none 0 0, .int .i64 0, .slice none 0 0, .bool false]) 6 80 Tryd.underlying42 infoGt rfl (by decide) (by decide) nb encGt (fun _ => rfl) (.slice (some ⟨nb, 0, none⟩) 0 0) [] (by rfl) (by repeat (first | with_reducible exact own_made' _ (by (try simp only [World.size_alloc, World.size_drew]); omega) (by omega) | with_reducible apply Own.drew | with_reducible apply Own.alloc)) g9 0 n cap ds hOne.out (by rfl) (Rows.below (HOw.out.rows (fun _ => rfl)) (Fb.kp (W := wb) (by repeat (first | with_reducible exact hQ | with_reducible apply Fb.drew | with_reducible apply Fb.other)))) (by simp; omega) (by (try simp only [World.size_alloc, World.size_drew]); omega) ?_
            intro v8 w8 hO8 hg8 hb8 hf8
            rw [List.nil_append] at hO8
            replace hQ := Fb.grownQ (by repeat (first | with_reducible exact hQ | with_reducible apply Fb.drew | with_reducible apply Fb.other)) hg8 (fun g hg => by have hg' : some (nb) = some g := hg; injection hg' with hg'; omega) (fun p hp e => by rw [List.mem_singleton.1 hp] at e; have e' : some (nb) = some (nb + 1) := e; injection e' with e'; omega)
            have hs8 := Below.size (Fb.kp hQ)
            clear hg8 hb8 hf8
            refine hK.out _ _ ?hs (fun hHeld => ?_)
            case hs => ((try dsimp only); exact ⟨Fb.old (by repeat (first | with_reducible exact hQ | with_reducible apply Fb.drew | with_reducible apply Fb.other)) E7.out.1, Fb.old (by repeat (first | with_reducible exact hQ | with_reducible apply Fb.drew | with_reducible apply Fb.other)) E7.out.2.1, Fb.old (by repeat (first | with_reducible exact hQ | with_reducible apply Fb.drew | with_reducible apply Fb.other)) E7.out.2.2.1, Fb.old (by repeat (first | with_reducible exact hQ | with_reducible apply Fb.drew | with_reducible apply Fb.other)) E7.out.2.2.2.1, Fb.old (by repeat (first | with_reducible exact hQ | with_reducible apply Fb.drew | with_reducible apply Fb.other)) E7.out.2.2.2.2.1, Fb.old (by repeat (first | with_reducible exact hQ | with_reducible apply Fb.drew | with_reducible apply Fb.other)) E7.out.2.2.2.2.2.1, Fb.old (by repeat (first | with_reducible exact hQ | with_reducible apply Fb.drew | with_reducible apply Fb.other)) E7.out.2.2.2.2.2.2⟩)
            clear hK KK
            (try simp only [Act.put, List.setIfInBounds_toArray, List.set_cons_zero, List.set_cons_succ])
            refine wpAnyH_ready (rs := [13]) (by kernel_rfl) (by simp) ?_
            refine AllReadyH.cons (o := _) (by simp only [List.getElem?_toArray, List.getElem?_cons_succ, List.getElem?_cons_zero]; rfl) (fun KK hK => ?_) AllReadyH.nil
            refine step_app (by rfl) _ _ 42 (by rfl) 48 (.agg #[.int .i64 0, .int .i64 0, .slice none 0 0, .int .i64 0, .slice none 0 0, .bool false]) 6 80 Tryd.underlying42 infoGt rfl (by decide) (by decide) nb encGt v8 ds rfl (by repeat (first | with_reducible exact hO8 | with_reducible apply Own.drew | with_reducible apply Own.alloc)) (⟨df, db, dl, .slice u1 v1 x1, .slice u2 v2 x2, dO⟩ : GtD) ⟨_, 0, none⟩ 1 rfl rfl (Fb.news (W := wb) (vs := [.int .i64 df, .int .i64 db, .slice u1 v1 x1, .int .i64 dl, .slice u2 v2 x2, .bool dO]) (by repeat (first | with_reducible exact hQ | with_reducible apply Fb.drew | with_reducible apply Fb.other))) (by simp [encGt, Value.oneCell']) (by have := HRl.out.1; have := hn.out; omega) (by (try simp only [World.size_alloc, World.size_drew]); omega) ?_
            intro v9 w9 hO9 hg9 hb9 hf9
            rw [← hnb] at hb9
            have hQB := Below.trans (Fb.kp (W := wb) (by repeat (first | with_reducible exact hQ | with_reducible apply Fb.drew | with_reducible apply Fb.other))) hb9
            replace hQ : Fb wb w9 [] := ⟨hQB, fun _ h => by cases h⟩
            clear hg9 hb9 hf9 hO8
            obtain ⟨a9, c9, rfl⟩ := hO9.sl
            obtain ⟨k9, hk9⟩ : ∃ k9, Hid ((ds ++ [(⟨df, db, dl, .slice u1 v1 x1, .slice u2 v2 x2, dO⟩ : GtD)]).length = k9) := ⟨_, rfl⟩
            rw [hk9.out] at hO9 ⊢
            have hF := HFw.out.below hQB
            have o := hF.own; simp only [World.size_alloc, World.size_drew, World.size_setCell, List.mem_cons, List.not_mem_nil, or_false, forall_eq_or_imp, forall_eq, At, and_true, Nat.zero_add, Nat.reduceAdd, List.set_cons_zero, List.set_cons_succ] at o
            refine hK.out _ _ ?hs (fun hHeld => ?_)
            case hs => ((try dsimp only); exact ⟨Fb.old (by repeat (first | with_reducible exact hQ | with_reducible apply Fb.drew | with_reducible apply Fb.other)) E7.out.1, Fb.old (by repeat (first | with_reducible exact hQ | with_reducible apply Fb.drew | with_reducible apply Fb.other)) E7.out.2.1, Fb.old (by repeat (first | with_reducible exact hQ | with_reducible apply Fb.drew | with_reducible apply Fb.other)) E7.out.2.2.1, Fb.old (by repeat (first | with_reducible exact hQ | with_reducible apply Fb.drew | with_reducible apply Fb.other)) E7.out.2.2.2.1, Fb.old (by repeat (first | with_reducible exact hQ | with_reducible apply Fb.drew | with_reducible apply Fb.other)) E7.out.2.2.2.2.1, Fb.old (by repeat (first | with_reducible exact hQ | with_reducible apply Fb.drew | with_reducible apply Fb.other)) E7.out.2.2.2.2.2.1, Fb.old (by repeat (first | with_reducible exact hQ | with_reducible apply Fb.drew | with_reducible apply Fb.other)) E7.out.2.2.2.2.2.2⟩)
            clear hK KK
            (try simp only [Act.put, List.setIfInBounds_toArray, List.set_cons_zero, List.set_cons_succ])
            refine wpAnyH_take (i := 14) (oi := _) (v := ?_) (by simp only [List.getElem?_toArray, List.getElem?_cons_succ, List.getElem?_cons_zero]; rfl) (by kernel_rfl) (by kernel_rfl) (by kernel_rfl) (by exact fun _ _ _ h => h) (Or.inl ⟨by rfl, ?hy⟩) (by assumption) ?_
            case hy => (intro w hSw; (try dsimp only at hSw); go_simp; (try with_reducible rfl))
            (try simp only [Act.put, List.setIfInBounds_toArray, List.set_cons_zero, List.set_cons_succ])
            refine wpAnyH_ready (rs := [15]) (by kernel_rfl) (by simp) ?_
            refine AllReadyH.cons (o := _) (by simp only [List.getElem?_toArray, List.getElem?_cons_succ, List.getElem?_cons_zero]; rfl) (fun KK hK => ?_) AllReadyH.nil
            go_simp
            refine hK.out _ _ ?hs (fun hHeld => ?_)
            case hs => ((try dsimp only); exact ⟨set_far (Fb.old (by repeat (first | with_reducible exact hQ | with_reducible apply Fb.drew | with_reducible apply Fb.other)) E7.out.1) (by dsimp only; omega), set_far (Fb.old (by repeat (first | with_reducible exact hQ | with_reducible apply Fb.drew | with_reducible apply Fb.other)) E7.out.2.1) (by dsimp only; omega), set_far (Fb.old (by repeat (first | with_reducible exact hQ | with_reducible apply Fb.drew | with_reducible apply Fb.other)) E7.out.2.2.1) (by dsimp only; omega), set_far (Fb.old (by repeat (first | with_reducible exact hQ | with_reducible apply Fb.drew | with_reducible apply Fb.other)) E7.out.2.2.2.1) (by dsimp only; omega), set_far (Fb.old (by repeat (first | with_reducible exact hQ | with_reducible apply Fb.drew | with_reducible apply Fb.other)) E7.out.2.2.2.2.1) (by dsimp only; omega), set_far (Fb.old (by repeat (first | with_reducible exact hQ | with_reducible apply Fb.drew | with_reducible apply Fb.other)) E7.out.2.2.2.2.2.1) (by dsimp only; omega), set_far (Fb.old (by repeat (first | with_reducible exact hQ | with_reducible apply Fb.drew | with_reducible apply Fb.other)) E7.out.2.2.2.2.2.2) (by dsimp only; omega)⟩)
            clear hK KK
            (try simp only [Act.put, List.setIfInBounds_toArray, List.set_cons_zero, List.set_cons_succ])
            refine wpAnyH_done (by kernel_rfl) ?_ _
            have hz9 := hQB.size
            go_wp2_with fail
            go_meet
            case rel => exact ⟨rfl, a9, k9, c9, by simp only [World.size_setCell]; omega, (go5_new HRl.out (by omega) hQB hO9 (part_last HRl.out.1 HE1.out HS1.out).1 (part_last HRl.out.1 HE1.out HS1.out).2).put (fun e => by have := hO9.ge n6 e; omega) (Or.inr (by dsimp only; omega)) _, (show GO5 shGt 48 w9 B B n5 (.slice (some ⟨g9, 0, none⟩) n cap) L from ⟨ds, HOw.out.below hQB, HRl.out.below hQB⟩).put (fun e => by injection e with e; dsimp only at e; omega) (Or.inr (by dsimp only; omega)) _, hF.set 2 (.slice a9 k9 c9) (by simp) (by simp <;> omega)⟩
        ·
          go_simp
          have hQz : Fb wb (wb.alloc (.cells #[.int .i64 df, .int .i64 db, .slice u1 v1 x1, .int .i64 dl, .slice u2 v2 x2, .bool dO] 48)) [(nb, [.int .i64 df, .int .i64 db, .slice u1 v1 x1, .int .i64 dl, .slice u2 v2 x2, .bool dO])] := by
            have := Fb.alloc (W := wb) (w := wb) (by repeat (first | with_reducible exact hQ | with_reducible apply Fb.drew | with_reducible apply Fb.other)) [.int .i64 df, .int .i64 db, .slice u1 v1 x1, .int .i64 dl, .slice u2 v2 x2, .bool dO] 48
            (try simp only [World.size_alloc, hnb] at this)
            exact this
          replace hQ := hQz
          clear hQz
          refine hK.out _ _ ?hs (fun hHeld => ?_)
          case hs => ((try dsimp only); exact ⟨Fb.old (by repeat (first | with_reducible exact hQ | with_reducible apply Fb.drew | with_reducible apply Fb.other)) E7.out.1, Fb.old (by repeat (first | with_reducible exact hQ | with_reducible apply Fb.drew | with_reducible apply Fb.other)) E7.out.2.1, Fb.old (by repeat (first | with_reducible exact hQ | with_reducible apply Fb.drew | with_reducible apply Fb.other)) E7.out.2.2.1, Fb.old (by repeat (first | with_reducible exact hQ | with_reducible apply Fb.drew | with_reducible apply Fb.other)) E7.out.2.2.2.1, Fb.old (by repeat (first | with_reducible exact hQ | with_reducible apply Fb.drew | with_reducible apply Fb.other)) E7.out.2.2.2.2.1, Fb.old (by repeat (first | with_reducible exact hQ | with_reducible apply Fb.drew | with_reducible apply Fb.other)) E7.out.2.2.2.2.2.1, Fb.old (by repeat (first | with_reducible exact hQ | with_reducible apply Fb.drew | with_reducible apply Fb.other)) E7.out.2.2.2.2.2.2⟩)
          clear hK KK
          (try simp only [Act.put, List.setIfInBounds_toArray, List.set_cons_zero, List.set_cons_succ])
          refine wpAnyH_ready (rs := [0]) (by kernel_rfl) (by simp) ?_
          refine AllReadyH.cons (o := _) (by simp only [List.getElem?_toArray, List.getElem?_cons_succ, List.getElem?_cons_zero]; rfl) (fun KK hK => ?_) AllReadyH.nil
          go_simp
          refine hK.out _ _ ?hs (fun hHeld => ?_)
          case hs => ((try dsimp only); exact ⟨Fb.old (by repeat (first | with_reducible exact hQ | with_reducible apply Fb.drew | with_reducible apply Fb.other)) E7.out.1, Fb.old (by repeat (first | with_reducible exact hQ | with_reducible apply Fb.drew | with_reducible apply Fb.other)) E7.out.2.1, Fb.old (by repeat (first | with_reducible exact hQ | with_reducible apply Fb.drew | with_reducible apply Fb.other)) E7.out.2.2.1, Fb.old (by repeat (first | with_reducible exact hQ | with_reducible apply Fb.drew | with_reducible apply Fb.other)) E7.out.2.2.2.1, Fb.old (by repeat (first | with_reducible exact hQ | with_reducible apply Fb.drew | with_reducible apply Fb.other)) E7.out.2.2.2.2.1, Fb.old (by repeat (first | with_reducible exact hQ | with_reducible apply Fb.drew | with_reducible apply Fb.other)) E7.out.2.2.2.2.2.1, Fb.old (by repeat (first | with_reducible exact hQ | with_reducible apply Fb.drew | with_reducible apply Fb.other)) E7.out.2.2.2.2.2.2⟩)
          clear hK KK
          (try simp only [Act.put, List.setIfInBounds_toArray, List.set_cons_zero, List.set_cons_succ])
          refine wpAnyH_ready (rs := [3]) (by kernel_rfl) (by simp) ?_
          refine AllReadyH.cons (o := _) (by simp only [List.getElem?_toArray, List.getElem?_cons_succ, List.getElem?_cons_zero]; rfl) (fun KK hK => ?_) AllReadyH.nil
          refine step_appsM (by rfl) _ _ 42 (by rfl) 48 (.agg #[.int .i64 0, .int .i64 0, .slice none 0 0, .int .i64 0, .slice none 0 0, .bool false]) 6 80 Tryd.underlying42 infoGt rfl (by decide) (by decide) nb encGt (fun _ => rfl) (.slice (some ⟨nb + 1, 0, none⟩) 0 0) [] (by rfl) (by repeat (first | with_reducible exact own_made' _ (by (try simp only [World.size_alloc, World.size_drew]); omega) (by omega) | with_reducible apply Own.drew | with_reducible apply Own.alloc)) g9 0 n cap ds hOne.out (by rfl) (Rows.below (HOw.out.rows (fun _ => rfl)) (Fb.kp (W := wb) (by repeat (first | with_reducible exact hQ | with_reducible apply Fb.drew | with_reducible apply Fb.other)))) (by simp; omega) (by (try simp only [World.size_alloc, World.size_drew]); omega) ?_
          intro v8 w8 hO8 hg8 hb8 hf8
          rw [List.nil_append] at hO8
          replace hQ := Fb.grownQ (by repeat (first | with_reducible exact hQ | with_reducible apply Fb.drew | with_reducible apply Fb.other)) hg8 (fun g hg => by have hg' : some (nb + 1) = some g := hg; injection hg' with hg'; omega) (fun p hp e => by rw [List.mem_singleton.1 hp] at e; have e' : some (nb + 1) = some (nb) := e; injection e' with e'; omega)
          have hs8 := Below.size (Fb.kp hQ)
          clear hg8 hb8 hf8
          refine hK.out _ _ ?hs (fun hHeld => ?_)
          case hs => ((try dsimp only); exact ⟨Fb.old (by repeat (first | with_reducible exact hQ | with_reducible apply Fb.drew | with_reducible apply Fb.other)) E7.out.1, Fb.old (by repeat (first | with_reducible exact hQ | with_reducible apply Fb.drew | with_reducible apply Fb.other)) E7.out.2.1, Fb.old (by repeat (first | with_reducible exact hQ | with_reducible apply Fb.drew | with_reducible apply Fb.other)) E7.out.2.2.1, Fb.old (by repeat (first | with_reducible exact hQ | with_reducible apply Fb.drew | with_reducible apply Fb.other)) E7.out.2.2.2.1, Fb.old (by repeat (first | with_reducible exact hQ | with_reducible apply Fb.drew | with_reducible apply Fb.other)) E7.out.2.2.2.2.1, Fb.old (by repeat (first | with_reducible exact hQ | with_reducible apply Fb.drew | with_reducible apply Fb.other)) E7.out.2.2.2.2.2.1, Fb.old (by repeat (first | with_reducible exact hQ | with_reducible apply Fb.drew | with_reducible apply Fb.other)) E7.out.2.2.2.2.2.2⟩)
          clear hK KK
          (try simp only [Act.put, List.setIfInBounds_toArray, List.set_cons_zero, List.set_cons_succ])
          refine wpAnyH_ready (rs := [13]) (by kernel_rfl) (by simp) ?_
          refine AllReadyH.cons (o := _) (by simp only [List.getElem?_toArray, List.getElem?_cons_succ, List.getElem?_cons_zero]; rfl) (fun KK hK => ?_) AllReadyH.nil
          refine step_app (by rfl) _ _ 42 (by rfl) 48 (.agg #[.int .i64 0, .int .i64 0, .slice none 0 0, .int .i64 0, .slice none 0 0, .bool false]) 6 80 Tryd.underlying42 infoGt rfl (by decide) (by decide) nb encGt v8 ds rfl (by repeat (first | with_reducible exact hO8 | with_reducible apply Own.drew | with_reducible apply Own.alloc)) (⟨df, db, dl, .slice u1 v1 x1, .slice u2 v2 x2, dO⟩ : GtD) ⟨_, 0, none⟩ 1 rfl rfl (Fb.news (W := wb) (vs := [.int .i64 df, .int .i64 db, .slice u1 v1 x1, .int .i64 dl, .slice u2 v2 x2, .bool dO]) (by repeat (first | with_reducible exact hQ | with_reducible apply Fb.drew | with_reducible apply Fb.other))) (by simp [encGt, Value.oneCell']) (by have := HRl.out.1; have := hn.out; omega) (by (try simp only [World.size_alloc, World.size_drew]); omega) ?_
          intro v9 w9 hO9 hg9 hb9 hf9
          rw [← hnb] at hb9
          have hQB := Below.trans (Fb.kp (W := wb) (by repeat (first | with_reducible exact hQ | with_reducible apply Fb.drew | with_reducible apply Fb.other))) hb9
          replace hQ : Fb wb w9 [] := ⟨hQB, fun _ h => by cases h⟩
          clear hg9 hb9 hf9 hO8
          obtain ⟨a9, c9, rfl⟩ := hO9.sl
          obtain ⟨k9, hk9⟩ : ∃ k9, Hid ((ds ++ [(⟨df, db, dl, .slice u1 v1 x1, .slice u2 v2 x2, dO⟩ : GtD)]).length = k9) := ⟨_, rfl⟩
          rw [hk9.out] at hO9 ⊢
          have hF := HFw.out.below hQB
          have o := hF.own; simp only [World.size_alloc, World.size_drew, World.size_setCell, List.mem_cons, List.not_mem_nil, or_false, forall_eq_or_imp, forall_eq, At, and_true, Nat.zero_add, Nat.reduceAdd, List.set_cons_zero, List.set_cons_succ] at o
          refine hK.out _ _ ?hs (fun hHeld => ?_)
          case hs => ((try dsimp only); exact ⟨Fb.old (by repeat (first | with_reducible exact hQ | with_reducible apply Fb.drew | with_reducible apply Fb.other)) E7.out.1, Fb.old (by repeat (first | with_reducible exact hQ | with_reducible apply Fb.drew | with_reducible apply Fb.other)) E7.out.2.1, Fb.old (by repeat (first | with_reducible exact hQ | with_reducible apply Fb.drew | with_reducible apply Fb.other)) E7.out.2.2.1, Fb.old (by repeat (first | with_reducible exact hQ | with_reducible apply Fb.drew | with_reducible apply Fb.other)) E7.out.2.2.2.1, Fb.old (by repeat (first | with_reducible exact hQ | with_reducible apply Fb.drew | with_reducible apply Fb.other)) E7.out.2.2.2.2.1, Fb.old (by repeat (first | with_reducible exact hQ | with_reducible apply Fb.drew | with_reducible apply Fb.other)) E7.out.2.2.2.2.2.1, Fb.old (by repeat (first | with_reducible exact hQ | with_reducible apply Fb.drew | with_reducible apply Fb.other)) E7.out.2.2.2.2.2.2⟩)
          clear hK KK
          (try simp only [Act.put, List.setIfInBounds_toArray, List.set_cons_zero, List.set_cons_succ])
          refine wpAnyH_take (i := 14) (oi := _) (v := ?_) (by simp only [List.getElem?_toArray, List.getElem?_cons_succ, List.getElem?_cons_zero]; rfl) (by kernel_rfl) (by kernel_rfl) (by kernel_rfl) (by exact fun _ _ _ h => h) (Or.inl ⟨by rfl, ?hy⟩) (by assumption) ?_
          case hy => (intro w hSw; (try dsimp only at hSw); go_simp; (try with_reducible rfl))
          (try simp only [Act.put, List.setIfInBounds_toArray, List.set_cons_zero, List.set_cons_succ])
          refine wpAnyH_ready (rs := [15]) (by kernel_rfl) (by simp) ?_
          refine AllReadyH.cons (o := _) (by simp only [List.getElem?_toArray, List.getElem?_cons_succ, List.getElem?_cons_zero]; rfl) (fun KK hK => ?_) AllReadyH.nil
          go_simp
          refine hK.out _ _ ?hs (fun hHeld => ?_)
          case hs => ((try dsimp only); exact ⟨set_far (Fb.old (by repeat (first | with_reducible exact hQ | with_reducible apply Fb.drew | with_reducible apply Fb.other)) E7.out.1) (by dsimp only; omega), set_far (Fb.old (by repeat (first | with_reducible exact hQ | with_reducible apply Fb.drew | with_reducible apply Fb.other)) E7.out.2.1) (by dsimp only; omega), set_far (Fb.old (by repeat (first | with_reducible exact hQ | with_reducible apply Fb.drew | with_reducible apply Fb.other)) E7.out.2.2.1) (by dsimp only; omega), set_far (Fb.old (by repeat (first | with_reducible exact hQ | with_reducible apply Fb.drew | with_reducible apply Fb.other)) E7.out.2.2.2.1) (by dsimp only; omega), set_far (Fb.old (by repeat (first | with_reducible exact hQ | with_reducible apply Fb.drew | with_reducible apply Fb.other)) E7.out.2.2.2.2.1) (by dsimp only; omega), set_far (Fb.old (by repeat (first | with_reducible exact hQ | with_reducible apply Fb.drew | with_reducible apply Fb.other)) E7.out.2.2.2.2.2.1) (by dsimp only; omega), set_far (Fb.old (by repeat (first | with_reducible exact hQ | with_reducible apply Fb.drew | with_reducible apply Fb.other)) E7.out.2.2.2.2.2.2) (by dsimp only; omega)⟩)
          clear hK KK
          (try simp only [Act.put, List.setIfInBounds_toArray, List.set_cons_zero, List.set_cons_succ])
          refine wpAnyH_done (by kernel_rfl) ?_ _
          have hz9 := hQB.size
          go_wp2_with fail
          go_meet
          case rel => exact ⟨rfl, a9, k9, c9, by simp only [World.size_setCell]; omega, (go5_new HRl.out (by omega) hQB hO9 (part_last HRl.out.1 HE1.out HS1.out).1 (part_last HRl.out.1 HE1.out HS1.out).2).put (fun e => by have := hO9.ge n6 e; omega) (Or.inr (by dsimp only; omega)) _, (show GO5 shGt 48 w9 B B n5 (.slice (some ⟨g9, 0, none⟩) n cap) L from ⟨ds, HOw.out.below hQB, HRl.out.below hQB⟩).put (fun e => by injection e with e; dsimp only at e; omega) (Or.inr (by dsimp only; omega)) _, hF.set 2 (.slice a9 k9 c9) (by simp) (by simp <;> omega)⟩
      case rest =>
        clear HOw HRl HE1 HFw
        obtain ⟨rfl, a6, k6, c6, hsz, hC, hO, hF⟩ := hcut
        obtain ⟨wd, hwd⟩ : ∃ wd : World, wd = wc := ⟨_, rfl⟩
        rw [← hwd] at hF hC hO hsz ⊢
        clear hwd hnb E7
        have o := hF.own; simp only [World.size_alloc, World.size_drew, World.size_setCell, List.mem_cons, List.not_mem_nil, or_false, forall_eq_or_imp, forall_eq, At, and_true, Nat.zero_add, Nat.reduceAdd, List.set_cons_zero, List.set_cons_succ] at o
        go_upto_region 13 with (fail)
        have hCl := hC.lt
        replace hF := hF.alloc [.int .i64 H, .bool false, .slice (some ⟨g9, 0, none⟩) n cap] 44
        replace hC := hC.alloc (.cells #[.int .i64 H, .bool false, .slice (some ⟨g9, 0, none⟩) n cap] 44)
        replace hO := hO.alloc (.cells #[.int .i64 H, .bool false, .slice (some ⟨g9, 0, none⟩) n cap] 44)
        obtain ⟨n7, hn7⟩ : ∃ n7, wd.heap.size = n7 := ⟨_, rfl⟩
        rw [hn7] at hF hCl hsz ⊢
        have h7s : (wd.alloc (.cells #[.int .i64 H, .bool false, .slice (some ⟨g9, 0, none⟩) n cap] 44)).heap.size = n7 + 1 := by simp only [World.size_alloc, hn7]
        clear hn7 o
        obtain ⟨we, hwe⟩ : ∃ we : World, wd.alloc (.cells #[.int .i64 H, .bool false, .slice (some ⟨g9, 0, none⟩) n cap] 44) = we := ⟨_, rfl⟩
        have hFe : Fb w (wd.alloc (.cells #[.int .i64 H, .bool false, .slice (some ⟨g9, 0, none⟩) n cap] 44)) [(n7, [.int .i64 H, .bool false, .slice (some ⟨g9, 0, none⟩) n cap]), (n6, [.int .i64 H, .bool up, .slice a6 k6 c6]), (n5, [.int .i64 H5, .bool up, .slice (some ⟨g9, 0, none⟩) n cap]), (n3, [.int .i64 H, .bool up, .slice (some ⟨g9, 0, none⟩) n cap])] := hF
        rw [hwe] at hFe hC hO h7s ⊢
        have h7a : n7 + 1 ≤ we.heap.size := by omega
        clear hwe hF h7s
        have hF := hFe
        clear hFe
        have o := hF.own; simp only [World.size_alloc, World.size_drew, World.size_setCell, List.mem_cons, List.not_mem_nil, or_false, forall_eq_or_imp, forall_eq, At, and_true, Nat.zero_add, Nat.reduceAdd, List.set_cons_zero, List.set_cons_succ] at o
        obtain ⟨es, hOw, hRl⟩ := hO
        have HOw := Lib.hid hOw
        have HRl := Lib.hid hRl
        have HFw := Lib.hid hF
        have HC := Lib.hid hC
        have hOne := Lib.hid hRl.one
        have hel : Hid (es.length = n) := hRl.1.trans hn.out
        clear hOw hRl hF hC
        go_upto_region 14 with (at_builtin; refine wpList_appsZ rfl _ _ 42 rfl 48 (.agg #[.int .i64 0, .int .i64 0, .slice none 0 0, .int .i64 0, .slice none 0 0, .bool false]) 6 80 Tryd.underlying42 infoGt rfl (by decide) (by decide) we.heap.size encGt (fun _ => rfl) (.slice (some ⟨we.heap.size, 0, none⟩) 0 0) [] rfl (own_made' _ rfl (Nat.le_refl _)) _ es hOne.out rfl (Rows.alloc (HOw.out.rows (fun _ => rfl)) _) (by have := hel.out; simp; omega) (by simp only [World.size_alloc]; omega) ?_; intro v8 w8 hO8 hg8 hb8 hf8; rw [List.nil_append] at hO8; have hBe : Below we.heap.size we w8 := ((Below.refl _ _).alloc (Nat.le_refl _) _).trans hb8; have hD := go5_new HRl.out (by omega) hBe hO8 HRl.out.1 (fun k s hk => ⟨k, hk, rfl⟩); have hF := HFw.out.below hBe; have hC := HC.out.below hBe; have hO : GO5 shGt 48 w8 B B n5 (.slice (some ⟨g9, 0, none⟩) n cap) L := ⟨es, HOw.out.below hBe, HRl.out.below hBe⟩; have hs8 := hBe.size; clear hg8 hb8 hf8 hO8 hBe HOw HRl HFw HC o; obtain ⟨g8, c8, rfl⟩ := gown_form (hD.gown (by omega) (by omega)) (by have := hn.out; omega); rw [hn.out] at hD ⊢; have o := hF.own; simp only [World.size_alloc, World.size_drew, World.size_setCell, List.mem_cons, List.not_mem_nil, or_false, forall_eq_or_imp, forall_eq, At, and_true, Nat.zero_add, Nat.reduceAdd, List.set_cons_zero, List.set_cons_succ] at o)
        have hge := hD.ge g8 rfl
        have hlt8 := hD.lt g8 rfl
        have hlt5 : (0 : Int) < (n : Int) := by omega
        replace hF := hF.set 2 (.slice (some ⟨g8, 0, none⟩) n c8) (by simp) (by simp <;> omega)
        replace hC := hC.put (p := ⟨n7, 2, none⟩) (fun e => by have := hCl n7 e; omega) (Or.inr (by dsimp only; omega)) (.slice (some ⟨g8, 0, none⟩) n c8)
        replace hO := hO.put (p := ⟨n7, 2, none⟩) (fun e => by injection e with e; dsimp only at e; omega) (Or.inr (by dsimp only; omega)) (.slice (some ⟨g8, 0, none⟩) n c8)
        replace hD := hD.put (p := ⟨n7, 2, none⟩) (fun e => by injection e with e; dsimp only at e; omega) (Or.inr (by dsimp only; omega)) (.slice (some ⟨g8, 0, none⟩) n c8)
        obtain ⟨wf, hwf⟩ : ∃ wf : World, w8.setCell ⟨n7, 2, none⟩ (.slice (some ⟨g8, 0, none⟩) n c8) = wf := ⟨_, rfl⟩
        have hsf : w8.heap.size ≤ wf.heap.size := by rw [← hwf]; simp only [World.size_setCell]; omega
        rw [hwf] at hF hC hO hD ⊢
        clear hwf o
        have o := hF.own; simp only [World.size_alloc, World.size_drew, World.size_setCell, List.mem_cons, List.not_mem_nil, or_false, forall_eq_or_imp, forall_eq, At, and_true, Nat.zero_add, Nat.reduceAdd, List.set_cons_zero, List.set_cons_succ] at o
        obtain ⟨s0, hs0⟩ := get_lt (L := L) (k := 0) (by have := hn.out; omega)
        have hDg := hD.gown (by omega) (by omega)
        obtain ⟨⟨f0, b0, lk0, P0, M0⟩, o0⟩ := s0
        obtain ⟨y1, y2, y3, y4, y5, y6, hcc, -, -⟩ := Gts.at hDg.gls hs0
        have c5 := hcc.2.2.2.2.2
        have l5 := gown_live hDg 5
        simp only [Nat.zero_mul, Nat.zero_add] at c5
        clear hcc
        have HS0 := Lib.hid hs0
        have HDg := Lib.hid hDg
        have HO := Lib.hid hO
        have HC := Lib.hid hC
        clear hs0 hDg hO hC hD
        go_upto_region 15 with (fail)
        have hO := HO.out.put (p := ⟨g8, 5, none⟩) (fun e => by injection e with e; dsimp only at e; omega) (Or.inr (by dsimp only; omega)) (.bool false)
        have hC := HC.out.put (p := ⟨g8, 5, none⟩) (fun e => by have := hCl g8 e; omega) (Or.inr (by dsimp only; omega)) (.bool false)
        have hD : GOwn shGt 48 (wf.setCell ⟨g8, 5, none⟩ (.bool false)) B (.slice (some ⟨g8, 0, none⟩) n c8) (L.set 0 ((f0, b0, lk0, P0, M0), false)) := gown_old HDg.out HS0.out false
        replace hF := hF.setAway ⟨g8, 5, none⟩ (.bool false) (by have := HB.out; dsimp only; omega) (by simp <;> omega)
        clear o c5 l5 HO HC HDg
        obtain ⟨wg, hwg⟩ : ∃ wg : World, wf.setCell ⟨g8, 5, none⟩ (.bool false) = wg := ⟨_, rfl⟩
        rw [hwg] at hF hC hO hD ⊢
        clear hwg
        have hE := HE0.out.below hF.kp
        have o := hF.own; simp only [World.size_alloc, World.size_drew, World.size_setCell, List.mem_cons, List.not_mem_nil, or_false, forall_eq_or_imp, forall_eq, At, and_true, Nat.zero_add, Nat.reduceAdd, List.set_cons_zero, List.set_cons_succ] at o
        go_wp2_with fail
        refine (iRibOk_any H5 up _ L a _ hO.gls hE).mono ?_; rintro e wx ⟨rfl, hbx⟩
        rw [rb_nohouse hok.out (by have := hn.out; omega) HQ5.out]
        replace hF := hF.below hbx
        replace hE := hE.below hbx
        replace hC := hC.below hbx
        replace hD := hD.below hbx
        clear hbx o hO
        have o := hF.own; simp only [World.size_alloc, World.size_drew, World.size_setCell, List.mem_cons, List.not_mem_nil, or_false, forall_eq_or_imp, forall_eq, At, and_true, Nat.zero_add, Nat.reduceAdd, List.set_cons_zero, List.set_cons_succ] at o
        go_wp2_with fail
        refine (iRibOk_any H up _ (L ++ [s]) a _ hC.gls hE).mono ?_; rintro e wy ⟨rfl, hby⟩
        rw [rb_twice HS1.out (by have := hn.out; omega)]
        replace hF := hF.below hby
        replace hE := hE.below hby
        replace hD := hD.below hby
        clear hby o hC
        have o := hF.own; simp only [World.size_alloc, World.size_drew, World.size_setCell, List.mem_cons, List.not_mem_nil, or_false, forall_eq_or_imp, forall_eq, At, and_true, Nat.zero_add, Nat.reduceAdd, List.set_cons_zero, List.set_cons_succ] at o
        go_wp2_with fail
        refine (iRibOk_any H false _ _ a _ hD.gls hE).mono ?_; rintro e wz ⟨rfl, hbz⟩
        rw [rb_noold HS0.out]
        replace hF := hF.below hbz
        clear hbz o hD hE
        go_wp2
        go_ret
        exact ⟨rfl, hF.kp⟩
end Go.Proofs.YtonojegnbcgnaaaDoor
