/- Law on peers: FnRelsPeers. -/
import Derived.Test.YtfckmgeakdbdfaaOj
import Derived.Test.YtfckmgeakdbdfaaLi
set_option linter.unusedSimpArgs false
set_option linter.unusedVariables false
namespace Go.Proofs.Ytfckmgeakdbdfaa
open Go.RowKit

theorem flat_encI (L : List Int) : L.flatMap encI = L.map (Value.int .i64) := by
  induction L with
  | nil => rfl
  | cons x L ih => rw [List.flatMap_cons, ih]; rfl
theorem apart_type {α β : Type} {E E' : TypeId} {w : World} {B B' : Nat} {v v' : Value} {sz sz' : Nat} {enc : α → List Value} {enc' : β → List Value} {L : List α} {L' : List β} (h : Own E w B v sz enc L) (h' : Own E' w B' v' sz' enc' L') (hne : E ≠ E') : Apart v v' := by
  obtain ⟨_, ⟨rfl, _⟩ | ⟨g, cap, cur, rfl, h2, h3, _⟩⟩ := h
  · intro g hg; simp [Value.ownBlock] at hg
  · obtain ⟨_, ⟨rfl, _⟩ | ⟨g', cap', cur', rfl, h2', h3', _⟩⟩ := h'
    · exact apart_nil _ _ _
    · intro x hx hx'
      injection hx with hx; injection hx' with hx'
      subst hx; dsimp only at hx'; subst hx'
      rw [h3] at h3'
      injection h3' with h3'; injection h3' with _ h3'
      exact hne h3'
theorem Own.cell {E : TypeId} {w : World} {B g n c : Nat} {L : List Int} (h : Own E w B (.slice (some ⟨g, 0, none⟩) n c) 1 encI L) {k : Nat} {x : Int} (hk : L[k]? = some x) : w.cell? ⟨g, k, none⟩ = some (.int .i64 x) ∧ w.frozen? ⟨g, k, none⟩ = false := by
  have hc := World.ownsRow.cells h (g := g) rfl k (.int .i64 x) (by rw [flat_encI, List.getElem?_map, hk]; rfl)
  rw [addr_add] at hc
  refine ⟨hc, ?_⟩
  obtain ⟨_, ⟨e1, _⟩ | ⟨g', cap, cur, e1, h2, h3, _⟩⟩ := h
  · cases e1
  · injection e1 with ea; injection ea with ea; injection ea with ea
    subst ea
    unfold World.frozen?; simp [h3]
theorem Own.put {E : TypeId} {w : World} {B g n c : Nat} {L : List Int} (h : Own E w B (.slice (some ⟨g, 0, none⟩) n c) 1 encI L) {k : Nat} (x : Int) (hk : k < L.length) : Own E (w.setCell ⟨g, k, none⟩ (.int .i64 x)) B (.slice (some ⟨g, 0, none⟩) n c) 1 encI (L.set k x) := by
  obtain ⟨h1, ⟨e1, _⟩ | ⟨g', cap, cur, e1, h2, h3, h4, h5, h6, h7⟩⟩ := h
  · cases e1
  · injection e1 with ea en ec; injection ea with ea; injection ea with ea
    subst ea; subst ec
    have hs := heap_setCell_same w g k cur E (.int .i64 x) h3
    refine ⟨by rw [flat_encI, List.length_map]; omega, Or.inr ⟨g, c, _, by rw [List.length_set, en], h2, hs, by rw [List.length_set]; exact h4, h5, by simpa using h6, ?_⟩⟩
    rw [flat_encI] at h7 ⊢
    rw [List.map_set, ← h7, List.length_set]
    simp [List.take_set]
theorem Own.zeros {B : Nat} (E : TypeId) (w : World) (n : Nat) (hB : B ≤ w.heap.size) (hn : n ≤ 1000000) : Own E (w.alloc (.cells (zarr n) E)) B (.slice (some ⟨w.heap.size, 0, none⟩) n n) 1 encI (List.replicate n 0) := by
  have := Own.lit E w B 1 encI (List.replicate n 0) (fun _ => rfl) hB (by simpa using hn)
  rw [List.length_replicate] at this
  have e : ((List.replicate n 0).flatMap encI).toArray = zarr n := by
    have h : (zarr n).toList = List.replicate n (.int .i64 0) := toList_madeCells_one _ _
    rw [flat_encI, List.map_replicate, ← h]
  rwa [e] at this
theorem Own.put' {α : Type} {E E' : TypeId} {w : World} {B : Nat} {v : Value} {sz : Nat} {enc : α → List Value} {L : List α} (h : Own E w B v sz enc L) {p : Addr} (hp : v.ownBlock ≠ some p.block) (u : Value) : Own E (w.setCell p u) B v sz enc L := ownsRow_setCell_other h hp u
/-- Rows of numbers of one's own, none of which lies where s does. -/
def RowsO (E : TypeId) (w : World) (B : Nat) (s : Value) (vs : List Value) (f : Nat → List Int) : Prop := ∀ (j : Nat) (u : Value), vs[j]? = some u → Own E w B u 1 encI (f j) ∧ Apart u s
theorem RowsO.below {E : TypeId} {w w' : World} {B : Nat} {s : Value} {vs : List Value} {f : Nat → List Int} (h : RowsO E w B s vs f) (hb : Below w.heap.size w w') : RowsO E w' B s vs f := fun j u hu => ⟨(h j u hu).1.below hb, (h j u hu).2⟩
theorem RowsO.alloc {E : TypeId} {w : World} {B : Nat} {s : Value} {vs : List Value} {f : Nat → List Int} (h : RowsO E w B s vs f) (o : Obj) : RowsO E (w.alloc o) B s vs f := h.below ((Below.refl _ _).alloc (Nat.le_refl _) _)
theorem RowsO.grown {E : TypeId} {w w' : World} {B : Nat} {s x : Value} {vs : List Value} {f : Nat → List Int} (h : RowsO E w B s vs f) (hg : w.grownBy w' x.ownBlock) (hx : ∀ (j : Nat) (u : Value), vs[j]? = some u → Apart u x) : RowsO E w' B s vs f := fun j u hu => ⟨(h j u hu).1.grown hg (hx j u hu), (h j u hu).2⟩
theorem RowsO.frsh {E : TypeId} {w w1 : World} {B : Nat} {s s' : Value} {vs : List Value} {f : Nat → List Int} (h : RowsO E w B s vs f) (hf : Frsh w1 s s') (hw : ∀ (j : Nat) (u : Value), vs[j]? = some u → ∀ g, u.ownBlock = some g → g < w1.heap.size) : RowsO E w B s' vs f := fun j u hu => ⟨(h j u hu).1, (h j u hu).2.frsh hf (hw j u hu)⟩
theorem RowsO.snoc {E : TypeId} {w : World} {B : Nat} {s y : Value} {vs : List Value} {f : Nat → List Int} (h : RowsO E w B s vs f) (hy : Own E w B y 1 encI (f vs.length)) (ha : Apart y s) : RowsO E w B s (vs ++ [y]) f := fun j u hu => by
  rcases snoc_at hu with hu | ⟨rfl, rfl⟩
  · exact h j u hu
  · exact ⟨hy, ha⟩
def rowL (n i k : Nat) : List Int := (List.range n).map (fun j => if j < k ∧ j ≠ i then 2 else 0)
theorem rowL_len (n i k : Nat) : (rowL n i k).length = n := by simp [rowL]
theorem rowL_zero (n i : Nat) : List.replicate n 0 = rowL n i 0 := by
  refine List.ext_getElem (by simp [rowL]) fun k h1 h2 => by simp [rowL]
theorem rowL_set {n i k : Nat} (h : k ≠ i) : (rowL n i k).set k 2 = rowL n i (k + 1) := by
  refine List.ext_getElem (by simp [rowL]) fun j h1 h2 => ?_
  rw [List.getElem_set]
  simp only [rowL, List.getElem_map, List.getElem_range]
  split
  · rename_i e; subst e; rw [if_pos ⟨by omega, h⟩]
  · rename_i e
    by_cases g : j < k ∧ j ≠ i
    · rw [if_pos g, if_pos ⟨by omega, g.2⟩]
    · rw [if_neg g, if_neg (fun g' => g ⟨by omega, g'.2⟩)]
theorem rowL_skip (n i : Nat) : rowL n i i = rowL n i (i + 1) := by
  unfold rowL
  refine List.map_congr_left fun j _ => ?_
  by_cases g : j < i ∧ j ≠ i
  · rw [if_pos g, if_pos ⟨by omega, g.2⟩]
  · rw [if_neg g, if_neg (fun g' => g ⟨by omega, g'.2⟩)]
theorem peers_row {n i : Nat} (hi : i < n) : (peersM n).getD i [] = rowL n i n := by
  unfold peersM rowL
  simp only [List.getD, List.getElem?_map, List.getElem?_range hi, Option.map_some, Option.getD_some]
  refine List.map_congr_left fun j hj => ?_
  have := List.mem_range.1 hj
  by_cases g : j = i
  · rw [if_pos g, if_neg (fun h => h.2 g)]
  · rw [if_neg g, if_pos ⟨this, g⟩]
theorem upto_succ (n : Nat) : upto (n + 1) = upto n ++ [(n : Int) + 1] := by simp [upto, List.range_succ]
set_option maxHeartbeats 4000000 in
theorem FnRelsPeers_walk (a0 a1 : Option Addr) (n0 c0 n1 c1 : Nat) (w : World) (h0 : Given w (.slice a0 n0 c0)) (_h1 : Given w (.slice a1 n1 c1)) :
    Calls Try.prog 11 #[.slice a0 n0 c0, .slice a1 n1 c1] w fun e w' => e = .returned (.bool true) ∧ Below w.heap.size w w' := by
  by_cases hn0 : 1048576 < n0
  · have e0 : decide (1048576 < (n0 : Int)) = true := by simp; omega
    go_enter Try.func11, Try.ntmps11
    go_wp2
    go_ret
    exact ⟨rfl, Below.refl _ _⟩
  have e0 : decide (1048576 < (n0 : Int)) = false := by simp; omega
  by_cases hn1 : 1048576 < n1
  · have e1 : decide (1048576 < (n1 : Int)) = true := by simp; omega
    go_enter Try.func11, Try.ntmps11
    go_wp2
    go_ret
    exact ⟨rfl, Below.refl _ _⟩
  have e1 : decide (1048576 < (n1 : Int)) = false := by simp; omega
  have hF := Fb.start w
  obtain ⟨N, hN⟩ : ∃ N : Nat, 1 + (n1 : Int) % 5 = (N : Int) := ⟨1 + n1 % 5, by omega⟩
  have hN1 : 1 ≤ N := by omega
  have hN5 : N ≤ 5 := by omega
  go_enter Try.func11, Try.ntmps11
  go_wp2_with fail
  refine (drawRelsOrder_any _ _ h0).mono ?_; rintro e w1 ⟨v, M, rfl, hM, hSq, hb1⟩
  replace hF := hF.below hb1
  clear hb1 h0 hSq
  obtain ⟨ao, n, cap, rfl, hn, hn63⟩ := hM.sl
  obtain ⟨b, hb⟩ : ∃ b, Hid (decide (FreeP M) = b) := ⟨_, rfl⟩
  go_wp2_with fail
  refine (sRelsOrder_any _ M _ hM).mono ?_; rintro e w2 ⟨u, rfl, hU, hb2⟩
  replace hF := hF.below hb2
  replace hM := hM.below hb2
  rw [hb.out]
  clear hb2
  go_wp2_with fail
  refine (iRelsOrder_any _ M _ hM).mono ?_; rintro e w3 ⟨t, rfl, hT, hb3⟩
  replace hF := hF.below hb3
  replace hM := hM.below hb3
  replace hU := hU.below hb3
  rw [hb.out]
  clear hb3
  have de : decide (ordF M = ordF M) = true := by simp
  have dbb : (b != b) = false := by simp
  have hmk := make_ints N (by omega)
  go_wp2_with (go_at_call 36; go_must (refine (lyInts_any _ _ _ _ _ hT hU).mono ?_); rintro e wx ⟨rfl, hbx⟩; replace hF := hF.below hbx; clear hbx hT hU hM)
  have HF := Lib.hid hF
  obtain ⟨wa, rfl⟩ : ∃ wa : World, wa = wx := ⟨_, rfl⟩
  have hP0 : Own 26 ((wa.alloc (.cells #[] 26)).alloc (.cells #[] 3)) wa.heap.size (.slice (some ⟨wa.heap.size, 0, none⟩) 0 0) 1 encV [] := (Own.made _ _ _ _ _ (Nat.le_refl _)).alloc _
  have hQ0 : Own 3 ((wa.alloc (.cells #[] 26)).alloc (.cells #[] 3)) wa.heap.size (.slice (some ⟨wa.heap.size + 1, 0, none⟩) 0 0) 1 encI (upto 0) := by
    have := Own.made 3 (wa.alloc (.cells #[] 26)) wa.heap.size 1 encI (by simp)
    rw [show (wa.alloc (.cells #[] 26)).heap.size = wa.heap.size + 1 by simp] at this
    exact this
  have hB0 : Below wa.heap.size wa ((wa.alloc (.cells #[] 26)).alloc (.cells #[] 3)) := ((Below.refl _ _).alloc (Nat.le_refl _) _).alloc (by simp) _
  clear hF de dbb
  go_loopw [11, 12, 13] (fun s11 s12 s13 wr => ∃ (i : Nat) (vs : List Value), i ≤ N ∧ s13 = .int .i64 i ∧ Hid (vs.length = i) ∧ Own 26 wr wa.heap.size s11 1 encV vs ∧ Own 3 wr wa.heap.size s12 1 encI (upto i) ∧ Hid (RowsO 3 wr wa.heap.size s12 vs (fun j => rowL N j N)) ∧ Below wa.heap.size wa wr) (fun _ _ s13 _ => N - (intOf s13).toNat)
  case atStart => exact ⟨0, [], Nat.zero_le _, rfl, rfl, hP0, hQ0, (fun j u h => by simp at h), hB0⟩
  case round =>
    clear hP0 hQ0 hB0
    obtain ⟨i, vs, hi, rfl, hvs, hP, hQ, hrows, hB⟩ := hrel
    by_cases hlt : i < N
    · go_wp2
      obtain ⟨wo, rfl⟩ : ∃ wo : World, wo = wr := ⟨_, rfl⟩
      have hR0 : Own 3 (wo.alloc (.cells (zarr N) 3)) wo.heap.size (.slice (some ⟨wo.heap.size, 0, none⟩) N N) 1 encI (rowL N i 0) := by
        rw [← rowL_zero]; exact Own.zeros _ _ _ (Nat.le_refl _) (by omega)
      have hB2 := (Below.refl wo.heap.size wo).alloc (Nat.le_refl _) (.cells (zarr N) 3)
      have hso := hB.size
      go_loopw [15] (fun s15 wr => ∃ k : Nat, k ≤ N ∧ s15 = .int .i64 k ∧ Own 3 wr wo.heap.size (.slice (some ⟨wo.heap.size, 0, none⟩) N N) 1 encI (rowL N i k) ∧ Below wo.heap.size wo wr) (fun s15 _ => N - (intOf s15).toNat)
      case atStart => exact ⟨0, Nat.zero_le _, rfl, hR0, hB2⟩
      case round =>
        clear hR0 hB2
        obtain ⟨k, hk, rfl, hR, hB2⟩ := hrel
        by_cases hlk : k < N
        · by_cases hki : k = i
          · have dk : ((k : Int) != (i : Int)) = false := by simp [hki]
            have hR' : Own 3 wr wo.heap.size (.slice (some ⟨wo.heap.size, 0, none⟩) N N) 1 encI (rowL N i (k + 1)) := by
              rw [hki, ← rowL_skip, ← hki]; rw [hki] at hR ⊢; exact hR
            clear hki hR
            go_wp2
            go_roundw
            case rel => exact ⟨k + 1, by omega, by go_num, hR', hB2⟩
            case measure => simp [intOf]; omega
          · have dk : ((k : Int) != (i : Int)) = true := by simp; omega
            obtain ⟨y, hy⟩ := get_of (rowL_len N i k) hlk
            obtain ⟨f1, f2⟩ := hR.cell hy
            have hR' := hR.put 2 (k := k) (by rw [rowL_len]; exact hlk)
            rw [rowL_set hki] at hR'
            have hB3 := hB2.setCell (p := ⟨wo.heap.size, k, none⟩) (by dsimp only; omega) (.int .i64 2)
            clear hki hR hy hB2
            go_wp2
            go_roundw
            case rel => exact ⟨k + 1, by omega, by go_num, hR', hB3⟩
            case measure => simp [intOf]; omega
        · obtain rfl : k = N := by omega
          have hQl := hQ.lt
          have hnew : Hid (Apart (.slice (some ⟨wo.heap.size, 0, none⟩) k k) u12) := fun g g1 g2 => by
            injection g1 with g1; subst g1; have := hQl _ g2; dsimp only at this; omega
          have hul : (upto i).length ≤ 5 := by rw [upto_len]; omega
          have hvl : vs.length ≤ 5 := by rw [hvs.out]; omega
          replace hP := hP.below hB2
          replace hQ := hQ.below hB2
          replace hrows := Lib.hid (hrows.out.below hB2)
          have hs2 := hB2.size
          replace hB := hB.trans (hB2.mono hso)
          clear hQl
          go_wp2_with (first | (at_builtin; refine wpList_app rfl _ _ 23 rfl 26 (.slice none 0 0) 1 24 Try.underlying23 infoRow rfl (by decide) (by decide) wa.heap.size encV _ _ rfl (hP.alloc _) (.slice (some ⟨wo.heap.size, 0, none⟩) k k) ⟨_, 0, none⟩ 1 rfl rfl (cells_new _ _ _) (by simp [encV, Value.oneCell']) (by omega) (by simp only [World.size_alloc]; omega) ?_; intro v' wx hO1 hg1 hb1 hf1; (have hsx := hb1.size; simp only [World.size_alloc] at hsx; have hrows2 := Lib.hid ((hrows.out.alloc _).grown hg1 (fun j u hu => apart_type (hrows.out j u hu).1 hP (by decide))); replace hQ := (hQ.alloc _).grown hg1 (apart_type hQ hP (by decide)); replace hR := (hR.alloc _).grown hg1 (apart_type hR hP (by decide)); replace hP := hO1; replace hrows := Lib.hid (hrows2.out.snoc (by rw [hvs.out]; exact hR.base hso) hnew.out); replace hB := (hB.alloc (by omega) _).trans hb1; clear hrows2 hO1 hg1 hb1 hf1)) | (at_builtin; refine wpList_app rfl _ _ 26 rfl 3 (.int .i64 0) 1 8 Try.underlying26 infoInt rfl (by decide) (by decide) wa.heap.size encI _ _ rfl (hQ.alloc _) ((i : Int) + 1) ⟨_, 0, none⟩ 1 rfl rfl (cells_new _ _ _) (by simp [encI, Value.oneCell']) (by omega) (by simp only [World.size_alloc]; omega) ?_; intro v' wx hO1 hg1 hb1 hf1; (have hsx := hb1.size; simp only [World.size_alloc] at hsx; replace hrows := Lib.hid (((hrows.out.alloc _).grown hg1 (fun j u hu => (hrows.out j u hu).2)).frsh hf1 (fun j u hu => ((hrows.out j u hu).1.alloc _).lt)); replace hP := (hP.alloc _).grown hg1 (apart_type hP hQ (by decide)); replace hQ := hO1; replace hB := (hB.alloc (by omega) _).trans hb1; clear hO1 hg1 hb1 hf1)))
          go_roundw
          case rel => exact ⟨i + 1, _, by omega, by go_num, by show _ = _; rw [List.length_append, hvs.out]; rfl, hP, by rw [upto_succ]; exact hQ, hrows, hB⟩
          case measure => simp [intOf]; omega
    · obtain rfl : i = N := by omega
      obtain ⟨hpr, hpo, hpf⟩ := peers_ok hN1 hN5
      have d1 : decide (FreeP (peersM i)) = true := decide_eq_true hpf
      have ho : Hid (ordF (peersM i) = upto i) := by show ordF _ = _; unfold ordF; rw [if_pos hpf]; exact hpo
      have hMP : Hid (Mat wr u11 (peersM i)) := Mat.of (hP.rows (fun _ => rfl)) (by rw [hvs.out]; simp [peersM]) (fun j u h => by
        have hj : j < i := by have := (List.getElem?_eq_some_iff.1 h).1; rw [hvs.out] at this; exact this
        rw [peers_row hj]
        exact (hrows.out j u h).1.rows (fun _ => rfl))
      have hQr := Lib.hid (hQ.rows (fun _ => rfl))
      have hF := HF.out.below hB
      have de : decide (upto i = upto i) = true := by simp
      clear hpr hpo hpf hP hQ hN1 hN5
      go_wp2_with fail
      refine (iRelsOrder_any _ (peersM i) _ hMP.out).mono ?_; rintro e w5 ⟨t, rfl, hT, hb5⟩
      rw [ho.out] at hT
      replace hF := hF.below hb5
      replace hQr := Lib.hid (hQr.out.below hb5)
      replace hMP := Lib.hid (hMP.out.below hb5)
      clear hb5
      go_wp2_with (first | (go_at_call 36; go_must (refine (lyInts_any _ _ _ _ _ hT hQr.out).mono ?_); rintro e wx ⟨rfl, hbx⟩; replace hF := hF.below hbx; replace hMP := Lib.hid (hMP.out.below hbx); clear hbx) | (go_at_call 30; go_must (refine (iRelsFree_any _ (peersM i) _ hMP.out).mono ?_); rintro e wx ⟨rfl, hbx⟩; replace hF := hF.below hbx; clear hbx))
      go_ret
      exact ⟨rfl, hF.kp⟩
end Go.Proofs.Ytfckmgeakdbdfaa
