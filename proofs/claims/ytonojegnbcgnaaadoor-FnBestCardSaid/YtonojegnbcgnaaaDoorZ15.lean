/- The heap of the contest. The heap of the contest: Swap, Push, up, heap.Push. The best of routes by the program. -/
import Derived.Test.YtonojegnbcgnaaaDoorZ14
import Derived.Handy
import Derived.BigRegion
set_option linter.unusedSimpArgs false
set_option linter.unusedVariables false
namespace Go.Proofs.YtonojegnbcgnaaaDoor
open Go.RowKit

def encN (n : Nat) : List Value := [.int .i64 (n : Int)]
theorem flat_encN : ∀ J : List Nat, J.flatMap encN = J.map (fun n : Nat => (.int .i64 (n : Int) : Value))
  | [] => rfl
  | x :: J => by rw [List.flatMap_cons, flat_encN J]; rfl
theorem OwnN.cell {E : TypeId} {w : World} {B g n cap : Nat} {J : List Nat} (h : Own E w B (.slice (some ⟨g, 0, none⟩) n cap) 1 encN J) {i : Nat} {x : Nat} (hx : J[i]? = some x) : w.cell? ⟨g, i, none⟩ = some (.int .i64 (x : Int)) := by
  have := Rows.get (h.rows (fun _ => rfl)) hx (j := 0) rfl
  simpa using this
theorem OwnN.live {E : TypeId} {w : World} {B g n cap : Nat} {J : List Nat} (h : Own E w B (.slice (some ⟨g, 0, none⟩) n cap) 1 encN J) (i : Nat) : w.frozen? ⟨g, i, none⟩ = false := by
  obtain ⟨ao, c, e⟩ := Own.sl h
  injection e with e1 e2 e3
  subst e2
  exact World.ownsRow.frozenAt h i
theorem OwnN.set {E : TypeId} {w : World} {B g n cap : Nat} {J : List Nat} (h : Own E w B (.slice (some ⟨g, 0, none⟩) n cap) 1 encN J) (i x : Nat) : Own E (w.setCell ⟨g, i, none⟩ (.int .i64 (x : Int))) B (.slice (some ⟨g, 0, none⟩) n cap) 1 encN (J.set i x) := by
  obtain ⟨ao, c, e⟩ := Own.sl h
  injection e with e1 e2 e3
  subst e2
  have := (World.ownsRow.stored h i (.int .i64 (x : Int))).1
  unfold Own
  rw [List.length_set, flat_encN, List.map_set, ← flat_encN]
  exact this
theorem OwnN.some {E : TypeId} {w : World} {B : Nat} {v : Value} {J : List Nat} (h : Own E w B v 1 encN J) (hl : 0 < J.length) : ∃ g c, v = .slice (some ⟨g, 0, none⟩) J.length c ∧ J.length ≤ c ∧ c ≤ 9223372036854775807 := by
  obtain ⟨_, ⟨rfl, h2⟩ | ⟨g, cap, cur, rfl, _, _, h4, h5, _⟩⟩ := h
  · omega
  · exact ⟨g, cap, rfl, h4, by unfold maxLen at h5; omega⟩

/-- The contest: its block, and its indexes; all that was there at W is as it was. -/
structure Ct (W w : World) (cb B : Nat) (rv v : Value) (J : List Nat) : Prop where
  kp : Below W.heap.size W w
  ge : W.heap.size ≤ cb
  lt : cb < B
  hB : B ≤ w.heap.size
  c0 : w.cell? ⟨cb, 0, none⟩ = some rv
  c1 : w.cell? ⟨cb, 1, none⟩ = some v
  live : w.frozen? ⟨cb, 1, none⟩ = false
  own : Own 3 w B v 1 encN J
theorem Ct.below {W w w' : World} {cb B : Nat} {rv v : Value} {J : List Nat} (h : Ct W w cb B rv v J) (K : Below w.heap.size w w') : Ct W w' cb B rv v J :=
  have hl : cb < w.heap.size := Nat.lt_of_lt_of_le h.lt h.hB
  ⟨h.kp.trans (K.mono h.kp.size), h.ge, h.lt, Nat.le_trans h.hB K.size, (K.cell hl).trans h.c0, (K.cell hl).trans h.c1, (K.frozen (p := ⟨cb, 1, none⟩) hl).trans h.live, h.own.below K⟩
theorem Ct.cl {W w : World} {cb B : Nat} {rv v : Value} {J : List Nat} (h : Ct W w cb B rv v J) (x : Cl w.heap.size w) : Ct W x.W cb B rv v J := h.below x.below
/-- Two indexes change places. -/
def swp (J : List Nat) (i j x y : Nat) : List Nat := (J.set i x).set j y
theorem Ct.swap {W w : World} {cb B g n cap : Nat} {rv : Value} {J : List Nat} (h : Ct W w cb B rv (.slice (some ⟨g, 0, none⟩) n cap) J) (i j x y : Nat) : Ct W ((w.setCell ⟨g, i, none⟩ (.int .i64 (x : Int))).setCell ⟨g, j, none⟩ (.int .i64 (y : Int))) cb B rv (.slice (some ⟨g, 0, none⟩) n cap) (swp J i j x y) := by
  have hg : B ≤ g := h.own.ge g rfl
  have hne : cb ≠ g := by have := h.lt; omega
  have hW : W.heap.size ≤ g := by have := h.ge; have := h.lt; omega
  refine ⟨(h.kp.setCell hW _).setCell hW _, h.ge, h.lt, by simpa using h.hB, ?_, ?_, ?_, OwnN.set (OwnN.set h.own i x) j y⟩
  · rw [World.cell?_setCell_other _ _ _ _ (by intro e; injection e; omega), World.cell?_setCell_other _ _ _ _ (by intro e; injection e; omega)]; exact h.c0
  · rw [World.cell?_setCell_other _ _ _ _ (by intro e; injection e; omega), World.cell?_setCell_other _ _ _ _ (by intro e; injection e; omega)]; exact h.c1
  · rw [World.frozen?_setCell, World.frozen?_setCell]; exact h.live

theorem Len_any (cb : Nat) (v : Value) (J : List Nat) (B : Nat) (rv : Value) (W w : World) (h : Ct W w cb B rv v J) :
    Calls Tryd.prog 151 #[.pointer (some ⟨cb, 0, none⟩)] w fun e w' => e = .returned (.int .i64 (J.length : Int)) ∧ Below w.heap.size w w' := by
  obtain ⟨ao, c, rfl⟩ := Own.sl h.own
  have c1 := h.c1
  go_enter Tryd.func151, Tryd.ntmps151
  go_wp2
  go_ret
  exact ⟨rfl, Below.refl _ _⟩
theorem lss_dec {L : List Rt} {x y : Nat} {s t : Rt} {z : Int} (hs : L[x]? = some s) (ht : L[y]? = some t) (h1 : ROkS s) (h2 : ROkS t) (hz : RT s.1 s.2.1 s.2.2.1 s.2.2.2.1 s.2.2.2.2 t.1 t.2.1 t.2.2.1 t.2.2.2.1 t.2.2.2.2 = z) : decide (orz z (icmp (x : Int) (y : Int)) < 0) = decide (lss L x y) := by
  rw [RT_ok h1 h2] at hz
  have e : rtS s t = z := hz
  have hl : lss L x y ↔ z < 0 ∨ z = 0 ∧ x < y := by
    unfold lss; rw [rat_of hs, rat_of ht, e]
  have hr : orz z (icmp (x : Int) (y : Int)) < 0 ↔ z < 0 ∨ z = 0 ∧ x < y := by
    unfold orz icmp
    by_cases hz0 : z = 0
    · rw [if_pos hz0]
      split
      · omega
      · split <;> omega
    · rw [if_neg hz0]; omega
  exact decide_eq_decide.2 (hr.trans hl.symm)
set_option maxHeartbeats 4000000 in
theorem Less_any (cb g n cap : Nat) (L : List Rt) (J : List Nat) (i j x y : Nat) (B : Nat) (rv : Value) (a : Addr) (W w : World) (h : Ct W w cb B rv (.slice (some ⟨g, 0, none⟩) n cap) J) (hv : Rts W rv L) (hE : EPath W a) (hok : ∀ s ∈ L, ROkS s) (hi : J[i]? = some x) (hj : J[j]? = some y) (hx : x < L.length) (hy : y < L.length) :
    Calls Tryd.prog 152 #[.pointer (some ⟨cb, 0, none⟩), .int .i64 (i : Int), .int .i64 (j : Int)] w fun e w' => e = .returned (.bool (decide (lss L x y))) ∧ Below w.heap.size w w' := by
  obtain ⟨s, hs⟩ := get_lt hx
  obtain ⟨t, ht⟩ := get_lt hy
  have h1 := hok s (List.mem_of_getElem? hs)
  have h2 := hok t (List.mem_of_getElem? ht)
  obtain ⟨z, hz⟩ : ∃ z, RT s.1 s.2.1 s.2.2.1 s.2.2.2.1 s.2.2.2.2 t.1 t.2.1 t.2.2.1 t.2.2.2.1 t.2.2.2.2 = z := ⟨_, rfl⟩
  have hd := Lib.hid (lss_dec hs ht h1 h2 hz)
  obtain ⟨f, b, lk, P, M⟩ := s
  obtain ⟨f2, b2, lk2, P2, M2⟩ := t
  dsimp only at hz
  obtain ⟨ao, nr, capr, rfl, hn, hnc, hcap⟩ := GLs.sl hv
  obtain ⟨b1, p1, rfl⟩ := GLs.adr hv (by have := hn.out; omega)
  have HV := Lib.hid (GLs.below hv (Below.refl _ _))
  obtain ⟨a1, m1, c1, a2, m2, c2, e0, e1, e2, e3, e4, i1, i2⟩ := Rts.at hv hs
  obtain ⟨a3, m3, c3, a4, m4, c4, g0, g1, g2, g3, g4, i3, i4⟩ := Rts.at hv ht
  have hxn : x < nr := by have := hn.out; omega
  have hyn : y < nr := by have := hn.out; omega
  have hil : i < n ∧ j < n ∧ n ≤ cap ∧ cap ≤ 9223372036854775807 := by
    obtain ⟨g', c', e, k1, k2⟩ := OwnN.some h.own (by have := (List.getElem?_eq_some_iff.1 hi).1; omega)
    injection e with e1 e2 e3
    have := (List.getElem?_eq_some_iff.1 hi).1
    have := (List.getElem?_eq_some_iff.1 hj).1
    omega
  obtain ⟨hin, hjn, hnc2, hcap2⟩ := hil
  have hF : Fb w w [] := Fb.start w
  have H := Lib.hid h
  have cI := Lib.hid (OwnN.cell h.own hi)
  have cJ := Lib.hid (OwnN.cell h.own hj)
  have C0 := Lib.hid h.c0
  have C1 := Lib.hid h.c1
  have K := h.kp
  have old : ∀ {p : Addr} {u : Value}, W.cell? p = some u → w.cell? p = some u := fun hp => (K.cell (World.block_lt_of_cell? _ _ hp)).trans hp
  have HE5 := Lib.hid (⟨old e0, old e1, old e2, old e3, old e4⟩ : w.cell? ⟨b1, p1 + x * 5, none⟩ = some (.int .i64 f) ∧ w.cell? ⟨b1, p1 + x * 5 + 1, none⟩ = some (.int .i64 b) ∧ w.cell? ⟨b1, p1 + x * 5 + 2, none⟩ = some (.slice a1 m1 c1) ∧ w.cell? ⟨b1, p1 + x * 5 + 3, none⟩ = some (.int .i64 lk) ∧ w.cell? ⟨b1, p1 + x * 5 + 4, none⟩ = some (.slice a2 m2 c2))
  have HG5 := Lib.hid (⟨old g0, old g1, old g2, old g3, old g4⟩ : w.cell? ⟨b1, p1 + y * 5, none⟩ = some (.int .i64 f2) ∧ w.cell? ⟨b1, p1 + y * 5 + 1, none⟩ = some (.int .i64 b2) ∧ w.cell? ⟨b1, p1 + y * 5 + 2, none⟩ = some (.slice a3 m3 c3) ∧ w.cell? ⟨b1, p1 + y * 5 + 3, none⟩ = some (.int .i64 lk2) ∧ w.cell? ⟨b1, p1 + y * 5 + 4, none⟩ = some (.slice a4 m4 c4))
  have HI := Lib.hid (fun (u : World) (Ku : Below w.heap.size w u) => (show Calls Tryd.prog 18 #[.agg #[.int .i64 f, .int .i64 b, .slice a1 m1 c1, .int .i64 lk, .slice a2 m2 c2], .agg #[.int .i64 f2, .int .i64 b2, .slice a3 m3 c3, .int .i64 lk2, .slice a4 m4 c4]] u fun e w' => e = .returned (.int .i64 z) ∧ Below u.heap.size u w' from by
    have Kz := K.trans (Ku.mono K.size)
    have := iRouteCmp_any f b lk _ _ P M f2 b2 lk2 _ _ P2 M2 a u (Rows.below i1 Kz) (Rows.below i2 Kz) (Rows.below i3 Kz) (Rows.below i4 Kz) (hE.below Kz)
    rwa [hz] at this))
  clear h hv hE hok hi hj hs ht h1 h2 hz e0 e1 e2 e3 e4 g0 g1 g2 g3 g4 i1 i2 i3 i4 old HV K H hx hy
  have gi0 : (0 : Int) ≤ (i : Int) := by omega
  have gi1 : (i : Int) < (n : Int) := by omega
  have gj0 : (0 : Int) ≤ (j : Int) := by omega
  have gj1 : (j : Int) < (n : Int) := by omega
  have gx1 : (x : Int) < (nr : Int) := by omega
  have gy1 : (y : Int) < (nr : Int) := by omega
  go_enter Tryd.func152, Tryd.ntmps152
  have z1 := fun z : Cl w.heap.size w => z.cell C1.out
  have z2 := fun z : Cl w.heap.size w => z.cell cI.out
  have z3 := fun z : Cl w.heap.size w => z.cell cJ.out
  go_wp2
  first | refine wp_region_new (by kernel_rfl) (by kernel_rfl) ?_ | refine wp_region_lex ?_
  repeat (any_goals (first | go_big_quiet_step ((fail)) | (refine wpQuiet_step (fun K hK => ?_); go_simp; split <;> (rename_i hg; refine hK _ ?_; clear hK K; simp only [hg, decide_true, decide_false]))))
  all_goals (refine wpQuiet_nil ?_; intro x)
  clear z1 z2 z3
  obtain ⟨w1, hb1⟩ := x
  dsimp only
  replace hF := hF.below hb1
  have o0 := (hb1.cell (World.block_lt_of_cell? _ _ C0.out)).trans C0.out
  have E0 := (hb1.cell (World.block_lt_of_cell? _ _ HE5.out.1)).trans HE5.out.1
  have E1 := (hb1.cell (World.block_lt_of_cell? _ _ HE5.out.2.1)).trans HE5.out.2.1
  have E2 := (hb1.cell (World.block_lt_of_cell? _ _ HE5.out.2.2.1)).trans HE5.out.2.2.1
  have E3 := (hb1.cell (World.block_lt_of_cell? _ _ HE5.out.2.2.2.1)).trans HE5.out.2.2.2.1
  have E4 := (hb1.cell (World.block_lt_of_cell? _ _ HE5.out.2.2.2.2)).trans HE5.out.2.2.2.2
  have G0 := (hb1.cell (World.block_lt_of_cell? _ _ HG5.out.1)).trans HG5.out.1
  have G1 := (hb1.cell (World.block_lt_of_cell? _ _ HG5.out.2.1)).trans HG5.out.2.1
  have G2 := (hb1.cell (World.block_lt_of_cell? _ _ HG5.out.2.2.1)).trans HG5.out.2.2.1
  have G3 := (hb1.cell (World.block_lt_of_cell? _ _ HG5.out.2.2.2.1)).trans HG5.out.2.2.2.1
  have G4 := (hb1.cell (World.block_lt_of_cell? _ _ HG5.out.2.2.2.2)).trans HG5.out.2.2.2.2
  have z0 := fun z : Cl w1.heap.size w1 => z.cell o0
  have x0 := fun z : Cl w1.heap.size w1 => z.cell E0
  have x1 := fun z : Cl w1.heap.size w1 => z.cell E1
  have x2 := fun z : Cl w1.heap.size w1 => z.cell E2
  have x3 := fun z : Cl w1.heap.size w1 => z.cell E3
  have x4 := fun z : Cl w1.heap.size w1 => z.cell E4
  have y0 := fun z : Cl w1.heap.size w1 => z.cell G0
  have y1 := fun z : Cl w1.heap.size w1 => z.cell G1
  have y2 := fun z : Cl w1.heap.size w1 => z.cell G2
  have y3 := fun z : Cl w1.heap.size w1 => z.cell G3
  have y4 := fun z : Cl w1.heap.size w1 => z.cell G4
  have hC := Lib.hid (fun u : Cl w1.heap.size w1 => HI.out u.W (hb1.trans (u.below.mono hb1.size)))
  clear E0 E1 E2 E3 E4 G0 G1 G2 G3 G4 o0 hb1
  go_wp2
  refine wp_region_tail 18 (by kernel_rfl) (by kernel_rfl) ?_
  simp only [List.take_succ_cons, List.take_zero, List.drop_succ_cons, List.drop_zero]
  repeat (any_goals (first | go_big_quiet_step ((first | (go_at_call 52; exact Calls.cl (compareB _ _ _)) | (go_at_call 18; exact Calls.cl (hC.out _)))) | (refine wpQuiet_step (fun K hK => ?_); go_simp; split <;> (rename_i hg; refine hK _ ?_; clear hK K; simp only [hg, decide_true, decide_false]))))
  all_goals (refine wpQuiet_nil ?_; intro x)
  go_wp2_with (go_at_call 51; refine (or_two _ _ _).mono ?_; rintro e w' ⟨rfl, rfl⟩)
  go_ret
  exact ⟨by rw [← hd.out]; rfl, ((hF.cl x).other _).kp⟩
end Go.Proofs.YtonojegnbcgnaaaDoor
set_option linter.unusedSimpArgs false
set_option linter.unusedVariables false
namespace Go.Proofs.YtonojegnbcgnaaaDoor
open Go.RowKit

set_option maxHeartbeats 4000000 in
theorem Swap_any (cb g n cap : Nat) (J : List Nat) (i j x y : Nat) (B : Nat) (rv : Value) (W w : World) (h : Ct W w cb B rv (.slice (some ⟨g, 0, none⟩) n cap) J) (hi : J[i]? = some x) (hj : J[j]? = some y) (hij : i < j) :
    Calls Tryd.prog 154 #[.pointer (some ⟨cb, 0, none⟩), .int .i64 (i : Int), .int .i64 (j : Int)] w fun e w' => e = .returned (.tuple #[]) ∧ Ct W w' cb B rv (.slice (some ⟨g, 0, none⟩) n cap) (swp J i j y x) := by
  have hil : i < n ∧ j < n ∧ n ≤ cap ∧ cap ≤ 9223372036854775807 := by
    obtain ⟨g', c', e, k1, k2⟩ := OwnN.some h.own (by have := (List.getElem?_eq_some_iff.1 hi).1; omega)
    injection e with e1 e2 e3
    have := (List.getElem?_eq_some_iff.1 hi).1
    have := (List.getElem?_eq_some_iff.1 hj).1
    omega
  obtain ⟨hin, hjn, hnc2, hcap2⟩ := hil
  have hs := Lib.hid (h.swap i j y x)
  have ci := OwnN.cell h.own hi
  have cj := OwnN.cell h.own hj
  have li := OwnN.live h.own i
  have lj := OwnN.live h.own j
  have c1 := h.c1
  have hne : cb ≠ g := by have := h.lt; have := h.own.ge g rfl; omega
  have hne2 : g ≠ cb := Ne.symm hne
  have hij2 : i ≠ j := by omega
  have hij3 : j ≠ i := by omega
  have gi0 : (0 : Int) ≤ (i : Int) := by omega
  have gi1 : (i : Int) < (n : Int) := by omega
  have gj0 : (0 : Int) ≤ (j : Int) := by omega
  have gj1 : (j : Int) < (n : Int) := by omega
  clear h hi hj hij
  go_enter Tryd.func154, Tryd.ntmps154
  go_region
  go_end0
  exact ⟨rfl, hs.out.below (Below.refl _ _).drew⟩
theorem assert_int (u : Value) (w : World) : (Instr.typeAssert (.iface 3 u) 20 3 true).run Tryd.prog w = .ok (.tuple #[u, .bool true]) w := by kernel_rfl
set_option maxHeartbeats 2000000 in
theorem CPush_any (cb : Nat) (v : Value) (J : List Nat) (k : Nat) (B : Nat) (rv : Value) (W w : World) (h : Ct W w cb B rv v J) (hJ : J.length ≤ 100000) :
    Calls Tryd.prog 153 #[.pointer (some ⟨cb, 0, none⟩), .iface 3 (.int .i64 (k : Int))] w fun e w' => e = .returned (.tuple #[]) ∧ ∃ v', Ct W w' cb B rv v' (J ++ [k]) := by
  obtain ⟨ao, c, rfl⟩ := Own.sl h.own
  have c1 := h.c1
  have hB := h.hB
  have hlt := h.lt
  have hl := h.live
  have H := Lib.hid h
  have hO := h.own
  clear h
  go_enter Tryd.func153, Tryd.ntmps153
  have hta := assert_int
  go_wp2_with (at_builtin; refine wpList_app rfl _ _ 25 rfl 3 (.int .i64 0) 1 8 Tryd.underlying25 infoInt rfl (by decide) (by decide) B encN _ _ rfl (hO.alloc _) k ⟨_, 0, none⟩ 1 rfl rfl (cells_new _ _ _) (by simp [encN, Value.oneCell']) (by omega) (by simp only [World.size_alloc]; omega) ?_; intro v' wx hO1 hg1 hb1 hf1; have f1 := (hb1.frozen (p := ⟨cb, 1, none⟩) hlt).trans ((World.frozen?_alloc_old _ _ _ (by dsimp only; omega)).trans hl); obtain ⟨a9, n9, c9, rfl⟩ : ∃ a n c, v' = Value.slice a n c := (by obtain ⟨a9, c9, e9⟩ := hO1.sl; exact ⟨_, _, _, e9⟩); have K1 : Below B w wx := Below.trans ((Below.refl _ _).alloc hB _) hb1; have d0 := (K1.cell (p := ⟨cb, 0, none⟩) hlt).trans H.out.c0; have d1 := (K1.cell (p := ⟨cb, 1, none⟩) hlt).trans H.out.c1; clear hg1 hb1 hf1)
  go_end0
  refine ⟨rfl, .slice a9 n9 c9, (H.out.kp.trans (K1.mono (by have := H.out.ge; omega))).setCell H.out.ge _, H.out.ge, hlt, by simp only [World.size_setCell]; have := K1.size; omega, ?_, ?_, ?_, hO1.set hlt _⟩
  · rw [World.cell?_setCell_other _ _ _ _ (by simp)]; exact d0
  · exact World.cell?_setCell_same _ _ _ d1
  · rw [World.frozen?_setCell]; exact f1
/-- What a push leaves at the head. -/
def hd9 (L : List Rt) (x h0 : Nat) : Nat := if lss L x h0 then x else h0
theorem swp_at {J : List Nat} {i j x y : Nat} (hij : i < j) (hj : j < J.length) (k : Nat) : (swp J i j x y)[k]? = if k = j then some y else if k = i then some x else J[k]? := by
  unfold swp
  rw [List.getElem?_set, List.getElem?_set, List.length_set]
  by_cases h1 : k = j
  · subst h1; simp [hj]
  · have h1' : ¬ j = k := fun e => h1 e.symm
    rw [if_neg h1', if_neg h1]
    by_cases h2 : k = i
    · subst h2; simp [show k < J.length by omega]
    · have h2' : ¬ i = k := fun e => h2 e.symm
      rw [if_neg h2', if_neg h2]
/-- Where the walk up the heap stands. -/
structure Up (L : List Rt) (J : List Nat) (j x h0 n : Nat) : Prop where
  len : J.length = n
  lt : j < n
  at' : J[j]? = some x
  rng : ∀ y ∈ J, y < n
  root : 0 < j → J[0]? = some h0
  none : j = 0 → hd9 L x h0 = x
  min : ∀ k y, J[k]? = some y → k ≠ j → ¬ lss L y h0
theorem Up.end0 {L : List Rt} {J : List Nat} {x h0 n : Nat} (h : Up L J 0 x h0 n) : J[0]? = some (hd9 L x h0) := by rw [h.none rfl]; exact h.at'
theorem Up.stop {L : List Rt} {J : List Nat} {j i x y h0 n : Nat} (h : Up L J j x h0 n) (hi : i < j) (hy : J[i]? = some y) (hl : ¬ lss L x y) : J[0]? = some (hd9 L x h0) := by
  have hr := h.root (by omega)
  have : ¬ lss L x h0 := fun q => by
    have hm := h.min i y hy (by omega)
    by_cases e : x = y
    · subst e; exact hm q
    · rcases lss_tot (L := L) e with q1 | q1
      · exact hl q1
      · exact hm (lss_trans q1 q)
  rw [hr]; unfold hd9; rw [if_neg this]
theorem Up.next {L : List Rt} {J : List Nat} {j i x y h0 n : Nat} (h : Up L J j x h0 n) (hi : i < j) (hy : J[i]? = some y) (hl : lss L x y) : Up L (swp J i j x y) i x h0 n := by
  have hjl : j < J.length := by have := h.lt; have := h.len; omega
  refine ⟨by unfold swp; simp [h.len], by have := h.lt; omega, ?_, ?_, ?_, ?_, ?_⟩
  · rw [swp_at hi hjl, if_neg (by omega), if_pos rfl]
  · intro z hz
    unfold swp at hz
    have hx := h.rng x (List.mem_of_getElem? h.at')
    have hyr := h.rng y (List.mem_of_getElem? hy)
    rcases List.mem_or_eq_of_mem_set hz with hz | rfl
    · rcases List.mem_or_eq_of_mem_set hz with hz | rfl
      · exact h.rng z hz
      · exact hx
    · exact hyr
  · intro h0'
    rw [swp_at hi hjl, if_neg (by omega), if_neg (by omega)]
    exact h.root (by omega)
  · intro e
    subst e
    have := h.root (by omega)
    rw [this] at hy
    injection hy with hy
    subst hy
    unfold hd9; rw [if_pos hl]
  · intro k z hz hk
    rw [swp_at hi hjl] at hz
    by_cases h1 : k = j
    · rw [if_pos h1] at hz
      injection hz with hz
      subst hz
      exact h.min i _ hy (by omega)
    · rw [if_neg h1, if_neg hk] at hz
      exact h.min k z hz h1
set_option maxHeartbeats 4000000 in
theorem up_any (cb : Nat) (v : Value) (L : List Rt) (J : List Nat) (j x h0 n : Nat) (B : Nat) (rv : Value) (a : Addr) (W w : World) (h : Ct W w cb B rv v J) (hv : Rts W rv L) (hE : EPath W a) (hok : ∀ s ∈ L, ROkS s) (hU : Up L J j x h0 n) (hn : n ≤ 100000) (hnl : n ≤ L.length) :
    Calls Tryd.prog 86 #[.iface 71 (.pointer (some ⟨cb, 0, none⟩)), .int .i64 (j : Int)] w fun e w' => e = .returned (.tuple #[]) ∧ ∃ J', Ct W w' cb B rv v J' ∧ J'.length = n ∧ J'[0]? = some (hd9 L x h0) ∧ ∀ y ∈ J', y < n := by
  obtain ⟨g, c, rfl, hc1, hc2⟩ := OwnN.some h.own (by have := hU.lt; have := hU.len; omega)
  rw [hU.len] at h hc1 ⊢
  have HV := Lib.hid hv
  have HE := Lib.hid hE
  have HOK := Lib.hid hok
  clear hv hE hok
  go_enter Tryd.func86, Tryd.ntmps86
  go_wp2
  go_loopw [1] (fun s1 wr => ∃ (j : Nat) (J : List Nat), s1 = .int .i64 (j : Int) ∧ Hid (Up L J j x h0 n) ∧ Ct W wr cb B rv (.slice (some ⟨g, 0, none⟩) n c) J) (fun s1 _ => (intOf s1).toNat)
  case atStart => exact ⟨j, J, rfl, hU, h⟩
  case round =>
    clear hU h
    obtain ⟨j, J, rfl, hU, hC⟩ := hrel
    have HC := Lib.hid hC
    by_cases hj0 : j = 0
    · subst hj0
      go_wp2
      go_end0
      exact ⟨rfl, J, hC, hU.out.len, hU.out.end0, hU.out.rng⟩
    · obtain ⟨i, hi⟩ : ∃ i, Hid ((j - 1) / 2 = i) := ⟨_, rfl⟩
      have hij : i < j := by have := hi.out; omega
      have hjn := hU.out.lt
      obtain ⟨y, hy⟩ := get_lt (L := J) (k := i) (by have := hU.out.len; omega)
      have HY := Lib.hid hy
      have hxl := Nat.lt_of_lt_of_le (hU.out.rng x (List.mem_of_getElem? hU.out.at')) hnl
      have hyl := Nat.lt_of_lt_of_le (hU.out.rng y (List.mem_of_getElem? hy)) hnl
      have q1 : IntKind.i64.wrap ((j : Int) - 1) = (j : Int) - 1 := IntWalk.i64_in _ (by omega)
      have q2 : ((j : Int) - 1).tdiv 2 = (i : Int) := by
        have := hi.out
        rw [show (j : Int) - 1 = ((j - 1 : Nat) : Int) by omega]
        rw [Int.tdiv_eq_ediv_of_nonneg (by omega)]; omega
      have q3 : ((i : Int) == (j : Int)) = false := by rw [beq_eq_false_iff_ne]; omega
      have q4 : ((j : Int) - 1) / 2 = (i : Int) := by have := hi.out; omega
      have cL := Lib.hid (Less_any cb g n c L J j i x y B rv a W wr hC HV.out HE.out HOK.out hU.out.at' hy hxl hyl)
      clear hy
      by_cases hl : lss L x y
      · rw [decide_eq_true hl] at cL
        have HL := Lib.hid hl
        clear hl
        go_wp2_with fail
        refine cL.out.mono ?_; rintro e w1 ⟨rfl, hb1⟩
        have hC1 := hC.below hb1
        have cS := Lib.hid (Swap_any cb g n c J i j y x B rv W w1 hC1 HY.out hU.out.at' hij)
        clear hC hb1 cL HC
        go_wp2_with fail
        refine cS.out.mono ?_; rintro e w2 ⟨rfl, hC2⟩
        clear cS hC1
        have hU2 := Lib.hid (hU.out.next hij HY.out HL.out)
        go_wp2_with fail
        go_roundw
        case rel => exact ⟨i, swp J i j x y, rfl, hU2, hC2⟩
        case measure => simp [intOf]; omega
      · rw [decide_eq_false hl] at cL
        have hs := Lib.hid (hU.out.stop hij HY.out hl)
        clear hl
        go_wp2_with fail
        refine cL.out.mono ?_; rintro e w1 ⟨rfl, hb1⟩
        have hC1 := hC.below hb1
        clear hC hb1 cL HC
        go_wp2
        go_end0
        exact ⟨rfl, J, hC1, hU.out.len, hs.out, hU.out.rng⟩
theorem hPush_any (cb : Nat) (v : Value) (L : List Rt) (J : List Nat) (k h0 : Nat) (B : Nat) (rv : Value) (a : Addr) (W w : World) (h : Ct W w cb B rv v J) (hv : Rts W rv L) (hE : EPath W a) (hok : ∀ s ∈ L, ROkS s) (hJ : J.length = k) (hk : k < L.length) (hr : ∀ y ∈ J, y < k) (hmin : ∀ y ∈ J, ¬ lss L y h0) (h00 : 0 < k → J[0]? = some h0) (h01 : k = 0 → h0 = 0) (hn : k ≤ 10000) :
    Calls Tryd.prog 49 #[.iface 71 (.pointer (some ⟨cb, 0, none⟩)), .iface 3 (.int .i64 (k : Int))] w fun e w' => e = .returned (.tuple #[]) ∧ ∃ v' J', Ct W w' cb B rv v' J' ∧ J'.length = k + 1 ∧ J'[0]? = some (hd9 L k h0) ∧ ∀ y ∈ J', y < k + 1 := by
  go_enter Tryd.func49, Tryd.ntmps49
  go_wp2_with fail
  refine (CPush_any cb v J k B rv W w h (by omega)).mono ?_; rintro e w1 ⟨rfl, v1, hC1⟩
  clear h
  go_wp2_with fail
  refine (Len_any cb v1 (J ++ [k]) B rv W w1 hC1).mono ?_; rintro e w2 ⟨rfl, hb2⟩
  have hC2 := hC1.below hb2
  have hU : Up L (J ++ [k]) k k h0 (k + 1) := by
    refine ⟨by simp [hJ], by omega, by rw [← hJ]; simp, ?_, ?_, ?_, ?_⟩
    · intro y hy
      rcases List.mem_append.1 hy with hy | hy
      · have := hr y hy; omega
      · rw [List.mem_singleton.1 hy]; omega
    · intro h0'
      rw [List.getElem?_append_left (by omega)]
      exact h00 h0'
    · intro e
      rw [h01 e, e]; unfold hd9; split <;> rfl
    · intro i y hy hi
      have hil : i < k := by
        have := (List.getElem?_eq_some_iff.1 hy).1
        simp at this; omega
      rw [List.getElem?_append_left (by omega)] at hy
      exact hmin y (List.mem_of_getElem? hy)
  have cU := Lib.hid (up_any cb v1 L (J ++ [k]) k k h0 (k + 1) B rv a W w2 hC2 hv hE hok hU (by omega) (by omega))
  have hl : (J ++ [k]).length = k + 1 := by simp [hJ]
  have q1 : IntKind.i64.wrap ((k : Int) + 1 - 1) = (k : Int) := by rw [show (k : Int) + 1 - 1 = (k : Int) by omega]; exact IntWalk.i64_in _ (by omega)
  rw [hl]
  clear hU hr hmin h00 h01 hC1 hC2 hb2 hv hE hok hl
  go_wp2_with fail
  refine cU.out.mono ?_; rintro e w3 ⟨rfl, J', hC3, h1, h2, h3⟩
  go_wp2
  go_end0
  exact ⟨rfl, v1, J', hC3, h1, h2, h3⟩
end Go.Proofs.YtonojegnbcgnaaaDoor
set_option linter.unusedSimpArgs false
set_option linter.unusedVariables false
namespace Go.Proofs.YtonojegnbcgnaaaDoor
open Go.RowKit

def nok (s : Rt) : Bool := !decide (ROkS s)
theorem RB1_any (f b lk : Int) (pv mv : Value) (P M : List Int) (a : Addr) (w : World) (hp : Ints w pv P) (hm : Ints w mv M) (hE : EPath w a) :
    Calls Tryd.prog 48 #[.agg #[.int .i64 f, .int .i64 b, pv, .int .i64 lk, mv]] w fun e w' => e = .returned (.bool (nok (f, b, lk, P, M))) ∧ Below w.heap.size w w' := by
  obtain ⟨o1, c1, rfl, -⟩ := hp.ex
  obtain ⟨o2, c2, rfl, -⟩ := hm.ex
  have hF := (Fb.start w).alloc [.int .i64 f, .int .i64 b, .slice o1 P.length c1, .int .i64 lk, .slice o2 M.length c2] 27
  have o := hF.own; simp only [World.size_alloc, World.size_drew, World.size_setCell, List.mem_cons, List.not_mem_nil, or_false, forall_eq_or_imp, forall_eq, At, and_true, Nat.zero_add, Nat.reduceAdd, List.set_cons_zero, List.set_cons_succ] at o
  go_enter Tryd.func48, Tryd.ntmps48
  go_wp2_with fail
  refine (iRouteOk_any f b lk _ _ P M a _ (Rows.below hp hF.kp) (Rows.below hm hF.kp) (hE.below hF.kp)).mono ?_; rintro e w1 ⟨rfl, hb1⟩
  replace hF := hF.below hb1
  clear o hb1
  go_wp2
  go_ret
  exact ⟨rfl, hF.kp⟩
set_option maxHeartbeats 1000000 in
theorem IndexRt_any (v : Value) (L : List Rt) (a : Addr) (w : World) (hv : Rts w v L) (hE : EPath w a) :
    Calls Tryd.prog 85 #[v, .func (.func 48) #[] #[]] w fun e w' => (∃ z : Int, e = .returned (.int .i64 z) ∧ decide (0 ≤ z) = L.any nok) ∧ Below w.heap.size w w' := by
  have hF := Fb.start w
  obtain ⟨ao, n, cap, rfl, hn, hnc, hcap⟩ := GLs.sl hv
  have HV := Lib.hid hv
  have HE := Lib.hid hE
  clear hv hE
  go_enter Tryd.func85, Tryd.ntmps85
  go_wp2
  go_loopw [8] (fun i wr => ∃ k : Nat, k ≤ n ∧ i = .int .i64 k ∧ Hid ((L.take k).any nok = false) ∧ Fb w wr []) (fun i _ => n - (intOf i).toNat)
  case atStart => exact ⟨0, Nat.zero_le _, rfl, rfl, hF⟩
  case round =>
    clear hF
    obtain ⟨k, hk, rfl, hany, hF⟩ := hrel
    by_cases hlt : k < n
    · obtain ⟨b1, p1, rfl⟩ := GLs.adr HV.out (by omega)
      obtain ⟨s, hs⟩ := get_of hn.out hlt
      have HX := Lib.hid hs
      obtain ⟨f, b, lk, P, M⟩ := s
      obtain ⟨a1, m1, c1, a2, m2, c2, e0, e1, e2, e3, e4, i1, i2⟩ := Rts.at (GLs.below HV.out hF.kp) hs
      have HC := Lib.hid (RB1_any f b lk _ _ P M a wr i1 i2 (HE.out.below hF.kp))
      clear hs i1 i2
      obtain ⟨q, hq⟩ : ∃ q, nok (f, b, lk, P, M) = q := ⟨_, rfl⟩
      rw [hq] at HC
      cases q with
      | true =>
        have hp := Lib.hid (any_hit (p := nok) HX.out hq)
        clear hq
        go_wp2_with (go_at_call 48; go_must (refine HC.out.mono ?_); rintro e w1 ⟨rfl, hb1⟩)
        go_ret
        exact ⟨⟨_, rfl, by rw [hp.out]; simp⟩, (hF.below hb1).kp⟩
      | false =>
        have hp := Lib.hid (any_step (p := nok) hany.out HX.out hq)
        clear hq
        go_wp2_with (go_at_call 48; go_must (refine HC.out.mono ?_); rintro e w1 ⟨rfl, hb1⟩)
        go_roundw
        case rel => exact ⟨k + 1, by omega, by go_num, hp, hF.below hb1⟩
        case measure => simp [intOf]; omega
    · have hp := Lib.hid (any_end (p := nok) hany.out (by rw [hn.out]; omega))
      go_wp2
      go_ret
      exact ⟨⟨-1, rfl, by rw [hp.out]; simp⟩, hF.kp⟩
theorem ContainsRt_any (v : Value) (L : List Rt) (a : Addr) (w : World) (hv : Rts w v L) (hE : EPath w a) :
    Calls Tryd.prog 47 #[v, .func (.func 48) #[] #[]] w fun e w' => e = .returned (.bool (L.any nok)) ∧ Below w.heap.size w w' := by
  have HC := Lib.hid (IndexRt_any v L a w hv hE)
  clear hv hE
  go_enter Tryd.func47, Tryd.ntmps47
  go_wp2_with fail
  refine HC.out.mono ?_; rintro e w1 ⟨⟨z, rfl, hz⟩, hb⟩
  have HZ := Lib.hid hz; clear hz
  go_wp2
  go_ret
  exact ⟨by rw [← HZ.out]; rfl, hb⟩
theorem hd9_bst {L : List Rt} {k h0 : Nat} (h : bst L (k - 1) = h0) (hk : 0 < k) : hd9 L k h0 = bst L k := by
  obtain ⟨j, rfl⟩ : ∃ j, k = j + 1 := ⟨k - 1, by omega⟩
  simp only [Nat.add_sub_cancel] at h
  subst h
  have := bst_le L j
  unfold hd9
  conv => rhs; unfold bst
  by_cases hl : lss L (j + 1) (bst L j)
  · rw [if_pos hl]
    have := hl
    unfold lss at this
    rw [if_pos (by omega)]
  · rw [if_neg hl]
    unfold lss at hl
    rw [if_neg (fun q => hl (Or.inl q))]
set_option maxHeartbeats 4000000 in
theorem iRouteBest_any (v : Value) (L : List Rt) (a : Addr) (w : World) (hv : Rts w v L) (hE : EPath w a) (hL : L.length ≤ 10000) :
    Calls Tryd.prog 16 #[v] w fun e w' => e = .returned (.int .i64 (bestOf L)) ∧ Below w.heap.size w w' := by
  have hF := Fb.start w
  obtain ⟨ao, n, cap, rfl, hn, hnc, hcap⟩ := GLs.sl hv
  have HV := Lib.hid hv
  have HE := Lib.hid hE
  clear hv hE
  have hn1 : n ≤ 10000 := by have := hn.out; omega
  go_enter Tryd.func16, Tryd.ntmps16
  by_cases hn00 : n = 0
  · subst hn00
    have hb : bestOf L = -1 := by rw [List.length_eq_zero_iff.1 hn.out, best_nil]
    go_wp2
    go_ret
    exact ⟨by rw [hb]; rfl, hF.kp⟩
  · have dn : ((n : Int) == 0) = false := by rw [beq_eq_false_iff_ne]; omega
    have cC := ContainsRt_any (.slice ao n cap) L a w HV.out HE.out
    obtain ⟨q, hq⟩ : ∃ q, L.any nok = q := ⟨_, rfl⟩
    rw [hq] at cC
    have CC := Lib.hid cC
    clear cC
    cases q with
    | true =>
      have hb : Hid (bestOf L = -1) := best_no (fun g => by
        obtain ⟨s, hs, hs2⟩ := List.any_eq_true.1 hq
        have := g s hs
        unfold nok at hs2; simp [this] at hs2)
      clear hq
      go_wp2_with fail
      refine CC.out.mono ?_; rintro e w1 ⟨rfl, hb1⟩
      replace hF := hF.below hb1
      clear hb1
      go_wp2
      go_ret
      exact ⟨by rw [hb.out]; rfl, hF.kp⟩
    | false =>
      have hok : Hid (∀ s ∈ L, ROkS s) := fun s hs => by
        have := List.any_eq_false.1 hq s hs
        unfold nok at this; simpa using this
      clear hq
      go_wp2_with fail
      refine CC.out.mono ?_; rintro e w1 ⟨rfl, hb1⟩
      have hCt : Ct w (w1.alloc (.cells #[.slice ao n cap, .slice none 0 0] 73)) w1.heap.size (w1.heap.size + 1) (.slice ao n cap) (.slice none 0 0) [] :=
        ⟨hb1.alloc hb1.size _, hb1.size, Nat.lt_succ_self _, by simp, by simp, by simp, by simp, Own.nil _ _ _ _ _⟩
      obtain ⟨cb, hcb⟩ : ∃ cb, w1.heap.size = cb := ⟨_, rfl⟩
      rw [hcb] at hCt
      clear hF hb1 CC dn
      go_wp2_with fail
      go_loopw [17] (fun i wr => ∃ (k h0 : Nat) (v' : Value) (J : List Nat), k ≤ n ∧ i = .int .i64 k ∧ Ct w wr cb (cb + 1) (.slice ao n cap) v' J ∧ J.length = k ∧ Hid (∀ y ∈ J, y < k) ∧ Hid (0 < k → J[0]? = some h0 ∧ bst L (k - 1) = h0) ∧ Hid (k = 0 → h0 = 0)) (fun i _ => n - (intOf i).toNat)
      case atStart => exact ⟨0, 0, _, [], Nat.zero_le _, rfl, hCt, rfl, fun y h => (by simp at h), fun h => (by omega), fun _ => rfl⟩
      case round =>
        clear hCt
        obtain ⟨k, h0, v', J, hk, rfl, hC, hJ, hr, hh, hh0⟩ := hrel
        by_cases hlt : k < n
        · have hmin : ∀ y ∈ J, ¬ lss L y h0 := fun y hy => by
            have h1 := hr.out y hy
            have h2 := (hh.out (by omega)).2
            rw [← h2]; exact bst_min L (k - 1) y (by omega)
          have cP := Lib.hid (hPush_any cb v' L J k h0 (cb + 1) _ a w wr hC HV.out HE.out hok.out hJ (by have := hn.out; omega) hr.out hmin (fun q => (hh.out q).1) hh0.out (by omega))
          clear hmin
          go_wp2_with fail
          refine cP.out.mono ?_; rintro e w2 ⟨rfl, v2, J2, hC2, h1, h2, h3⟩
          have hH2 : Hid (0 < k + 1 → J2[0]? = some (bst L k) ∧ bst L (k + 1 - 1) = bst L k) := fun _ => ⟨by
            rw [h2]
            by_cases hk0 : k = 0
            · subst hk0
              rw [hh0.out rfl]; unfold hd9 bst; split <;> rfl
            · rw [hd9_bst (hh.out (by omega)).2 (by omega)], rfl⟩
          clear h2 cP hC
          go_wp2
          go_roundw
          case rel => exact ⟨k + 1, bst L k, v2, J2, by omega, by go_num, hC2, h1, h3, hH2, fun q => (by omega)⟩
          case measure => simp [intOf]; omega
        · have hkn : k = n := by omega
          subst hkn
          obtain ⟨h1, h2⟩ := hh.out (by omega)
          have hb : Hid (bestOf L = (h0 : Int)) := by
            show _ = _
            rw [best_yes hok.out (by have := hn.out; omega), hn.out, h2]
          obtain ⟨g, c, rfl, hc1, hc2⟩ := OwnN.some hC.own (by omega)
          have ci := OwnN.cell hC.own h1
          have cc := hC.c1
          have hK := Lib.hid hC.kp
          rw [hJ] at cc
          have gk : (0 : Int) < (k : Int) := by omega
          clear hC h1 h2 hc1 hc2 hn00
          go_wp2
          go_ret
          exact ⟨by rw [hb.out]; rfl, hK.out⟩
end Go.Proofs.YtonojegnbcgnaaaDoor
