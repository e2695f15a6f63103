/- Law on the form of relations: FnRelsForm. -/
import Derived.Test.YtfckmgeakdbdfaaOl
import Derived.Test.YtfckmgeakdbdfaaMh
set_option linter.unusedSimpArgs false
set_option linter.unusedVariables false
namespace Go.Proofs.Ytfckmgeakdbdfaa
open Go.RowKit

/-- Two copies of a matrix, of which no two rows lie in one block. -/
structure Cp (w : World) (B : Nat) (M K : List (List Int)) (s t : Value) (va vb : List Value) : Prop where
  a : Own 26 w B s 1 encV va
  b : Own 26 w B t 1 encV vb
  st : Apart s t
  ra : ∀ (j : Nat) (u : Value), va[j]? = some u → Own 3 w B u 1 encI (M.getD j [])
  rb : ∀ (j : Nat) (u : Value), vb[j]? = some u → Own 3 w B u 1 encI (K.getD j [])
  aa : ∀ (j k : Nat) (u x : Value), j ≠ k → va[j]? = some u → va[k]? = some x → Apart u x
  bb : ∀ (j k : Nat) (u x : Value), j ≠ k → vb[j]? = some u → vb[k]? = some x → Apart u x
  ab : ∀ (j k : Nat) (u x : Value), va[j]? = some u → vb[k]? = some x → Apart u x
theorem Cp.below {w w' : World} {B : Nat} {M K : List (List Int)} {s t : Value} {va vb : List Value} (h : Cp w B M K s t va vb) (hb : Below w.heap.size w w') : Cp w' B M K s t va vb :=
  ⟨h.a.below hb, h.b.below hb, h.st, fun j u hu => (h.ra j u hu).below hb, fun j u hu => (h.rb j u hu).below hb, h.aa, h.bb, h.ab⟩
theorem Cp.addA {w w' : World} {B : Nat} {M K : List (List Int)} {s s' t u : Value} {va vb : List Value} (h : Cp w B M K s t va vb) (hu : Own 3 w B u 1 encI (M.getD va.length [])) (hn : ∀ x, x ∈ va ∨ x ∈ vb → Apart x u) (ho : Own 26 w' B s' 1 encV (va ++ [u])) (hg : w.grownBy w' s.ownBlock) (hf : Frsh w s s') : Cp w' B M K s' t (va ++ [u]) vb := by
  have hty : ∀ (L : List Int) (x : Value), Own 3 w B x 1 encI L → Own 3 w' B x 1 encI L := fun L x hx => hx.grown hg (apart_type hx h.a (by decide))
  refine ⟨ho, h.b.grown hg h.st.symm, h.st.frsh' hf h.b.lt, fun j x hx => ?_, fun j x hx => hty _ _ (h.rb j x hx), fun j k x y hjk hx hy => ?_, h.bb, fun j k x y hx hy => ?_⟩
  · rcases snoc_at hx with hx | ⟨rfl, rfl⟩
    · exact hty _ _ (h.ra j x hx)
    · exact hty _ _ hu
  · rcases snoc_at hx with hx' | ⟨e1, e2⟩
    · rcases snoc_at hy with hy' | ⟨e3, e4⟩
      · exact h.aa j k x y hjk hx' hy'
      · rw [e4]; exact hn x (Or.inl (List.mem_of_getElem? hx'))
    · rcases snoc_at hy with hy' | ⟨e3, e4⟩
      · rw [e2]; exact (hn y (Or.inl (List.mem_of_getElem? hy'))).symm
      · omega
  · rcases snoc_at hx with hx' | ⟨e1, e2⟩
    · exact h.ab j k x y hx' hy
    · rw [e2]; exact (hn y (Or.inr (List.mem_of_getElem? hy))).symm
theorem Cp.addA2 {w w' : World} {B : Nat} {M K : List (List Int)} {s s' t u : Value} {va vb : List Value} {o : Obj} (h : Cp w B M K s t va vb) (hu : Own 3 w B u 1 encI (M.getD va.length [])) (hn : ∀ x, x ∈ va ∨ x ∈ vb → Apart x u) (ho : Own 26 w' B s' 1 encV (va ++ [u])) (hg : (w.alloc o).grownBy w' s.ownBlock) (hf : Frsh (w.alloc o) s s') : Cp w' B M K s' t (va ++ [u]) vb :=
  Cp.addA (h.below ((Below.refl _ _).alloc (Nat.le_refl _) o)) (hu.alloc o) hn ho hg hf
theorem Cp.swap {w : World} {B : Nat} {M K : List (List Int)} {s t : Value} {va vb : List Value} (h : Cp w B M K s t va vb) : Cp w B K M t s vb va :=
  ⟨h.b, h.a, h.st.symm, h.rb, h.ra, h.bb, h.aa, fun j k u x hu hx => (h.ab k j x u hx hu).symm⟩
theorem Cp.fresh {w : World} {B : Nat} {M K : List (List Int)} {s t u : Value} {va vb : List Value} (h : Cp w B M K s t va vb) (hu : ∀ g, u.ownBlock = some g → w.heap.size ≤ g) : ∀ x, x ∈ va ∨ x ∈ vb → Apart x u := by
  rintro x (hx | hx)
  · obtain ⟨j, hj, e⟩ := List.getElem_of_mem hx
    exact apart_lt (h.ra j x (by rw [List.getElem?_eq_getElem hj, e])).lt hu
  · obtain ⟨j, hj, e⟩ := List.getElem_of_mem hx
    exact apart_lt (h.rb j x (by rw [List.getElem?_eq_getElem hj, e])).lt hu
theorem own_at {E : TypeId} {w : World} {B g n c : Nat} {vs : List Value} (h : Own E w B (.slice (some ⟨g, 0, none⟩) n c) 1 encV vs) {k : Nat} {u : Value} (hk : vs[k]? = some u) : w.cell? ⟨g, k, none⟩ = some u := by
  have hc := World.ownsRow.cells h (g := g) rfl k u (by rw [← flat_encV]; exact hk)
  rwa [addr_add] at hc
theorem own_some {α : Type} {E : TypeId} {w : World} {B : Nat} {v : Value} {sz : Nat} {enc : α → List Value} {L : List α} (h : Own E w B v sz enc L) (hL : 0 < L.length) : ∃ g c, v = .slice (some ⟨g, 0, none⟩) L.length c ∧ L.length ≤ c ∧ c ≤ 9223372036854775807 ∧ B ≤ g := by
  obtain ⟨_, ⟨_, h2⟩ | ⟨g, cap, cur, e, h2, _, h4, h5, _⟩⟩ := h
  · omega
  · exact ⟨g, cap, e, h4, by unfold maxLen at h5; omega, h2⟩
theorem own_some' {α : Type} {E : TypeId} {w : World} {B n : Nat} {v : Value} {sz : Nat} {enc : α → List Value} {L : List α} (h : Own E w B v sz enc L) (hL : L.length = n) (hn : 0 < n) : ∃ g c, v = .slice (some ⟨g, 0, none⟩) n c ∧ n ≤ c := by
  obtain ⟨g, c, e, h1, _⟩ := own_some h (by omega)
  rw [hL] at e h1
  exact ⟨g, c, e, h1⟩
theorem set_getD {M : List (List Int)} {i j : Nat} {r : List Int} (hj : j < M.length) : (M.set i r).getD j [] = if i = j then r else M.getD j [] := by
  simp only [List.getD]
  by_cases e : i = j
  · subst e; rw [List.getElem?_set_self hj, if_pos rfl]; rfl
  · rw [List.getElem?_set_ne e, if_neg e]
theorem Cp.mat {w : World} {B : Nat} {M K : List (List Int)} {s t : Value} {va vb : List Value} (h : Cp w B M K s t va vb) (hl : va.length = M.length) : Mat w s M :=
  Mat.of (h.a.rows (fun _ => rfl)) hl (fun i u hi => (h.ra i u hi).rows (fun _ => rfl))
/-- After one number has been put into a copy. -/
theorem Cp.put {w : World} {B : Nat} {M K : List (List Int)} {s t : Value} {va vb : List Value} (h : Cp w B M K s t va vb) (hl : va.length = M.length) {k j g n c : Nat} (hk : va[k]? = some (.slice (some ⟨g, 0, none⟩) n c)) (x : Int) (hj : j < (M.getD k []).length) :
    Cp (w.setCell ⟨g, j, none⟩ (.int .i64 x)) B (putM M k j x) K s t va vb := by
  have hu := h.ra k _ hk
  have hbl : ∀ v : Value, Apart (.slice (some ⟨g, 0, none⟩) n c) v → v.ownBlock ≠ some (⟨g, j, none⟩ : Addr).block := fun v hv e => hv g rfl e
  refine ⟨Own.put' (E' := 0) h.a (hbl s (apart_type hu h.a (by decide))) _, Own.put' (E' := 0) h.b (hbl t (apart_type hu h.b (by decide))) _, h.st, fun i u hi => ?_, fun i u hi => Own.put' (E' := 0) (h.rb i u hi) (hbl u (h.ab k i _ u hk hi)) _, h.aa, h.bb, h.ab⟩
  have hi' : i < M.length := by rw [← hl]; exact (List.getElem?_eq_some_iff.1 hi).1
  unfold putM
  rw [set_getD hi']
  by_cases e : k = i
  · subst e
    rw [hk] at hi; injection hi with hi; subst hi
    rw [if_pos rfl]
    exact hu.put x hj
  · rw [if_neg e]
    exact Own.put' (E' := 0) (h.ra i u hi) (hbl u (h.aa k i _ u e hk hi)) _
set_option maxHeartbeats 4000000 in
theorem FnRelsForm_walk (a0 a1 : Option Addr) (n0 c0 n1 c1 : Nat) (w : World) (h0 : Given w (.slice a0 n0 c0)) (_h1 : Given w (.slice a1 n1 c1)) :
    Calls Try.prog 3 #[.slice a0 n0 c0, .slice a1 n1 c1] w fun e w' => e = .returned (.bool true) ∧ Below w.heap.size w w' := by
  by_cases hn0 : 1048576 < n0
  · have e0 : decide (1048576 < (n0 : Int)) = true := by simp; omega
    go_enter Try.func3, Try.ntmps3
    go_wp2
    go_ret
    exact ⟨rfl, Below.refl _ _⟩
  have e0 : decide (1048576 < (n0 : Int)) = false := by simp; omega
  by_cases hn1 : 1048576 < n1
  · have e1 : decide (1048576 < (n1 : Int)) = true := by simp; omega
    go_enter Try.func3, Try.ntmps3
    go_wp2
    go_ret
    exact ⟨rfl, Below.refl _ _⟩
  have e1 : decide (1048576 < (n1 : Int)) = false := by simp; omega
  have hF := Fb.start w
  go_enter Try.func3, Try.ntmps3
  go_wp2_with fail
  refine (drawRelsOk_any _ _ h0).mono ?_; rintro e w1 ⟨v, M, rfl, hM, hSq, hb1⟩
  replace hF := hF.below hb1
  clear hb1 h0
  by_cases hp : RelsP M
  · have d1 : decide (RelsP M) = true := by simp [hp]
    obtain ⟨n, cap, hn, hnc, hcap, hv⟩ := hM.cases
    have hn5 : n ≤ 5 := by have := hp.2.2; have := hn.out; omega
    have hn1 : 1 ≤ n := by have := hp.2.1; have := hn.out; omega
    obtain ⟨b0, off, rfl⟩ : ∃ b off, v = .slice (some ⟨b, off, none⟩) n cap := by
      rcases hv with ⟨g, _⟩ | ⟨_, b, off, e⟩
      · omega
      · exact ⟨b, off, e⟩
    have HP := Lib.hid hp
    clear hp hv hSq
    go_wp2_with (first | (go_at_call 14; go_must (refine (iRelsOk_any _ M _ hM).mono ?_); rintro e wx ⟨rfl, hbx⟩; replace hM := hM.below hbx; replace hF := hF.below hbx; clear hbx) | (go_at_call 15; go_must (refine (sRelsOk_any _ M _ hM).mono ?_); rintro e wx ⟨rfl, hbx⟩; replace hM := hM.below hbx; replace hF := hF.below hbx; clear hbx))
    have HM := Lib.hid hM
    have HF := Lib.hid hF
    clear hM hF
    obtain ⟨wa, rfl⟩ : ∃ wa : World, wa = wx := ⟨_, rfl⟩
    have hC0 : Cp ((wa.alloc (.cells #[] 26)).alloc (.cells #[] 26)) wa.heap.size M M (.slice (some ⟨wa.heap.size, 0, none⟩) 0 0) (.slice (some ⟨wa.heap.size + 1, 0, none⟩) 0 0) [] [] := by
      refine ⟨(Own.made _ _ _ _ _ (Nat.le_refl _)).alloc _, ?_, fun g h1 h2 => (by simp [Value.ownBlock] at h1 h2; omega), fun j u h => by simp at h, fun j u h => by simp at h, fun j k u x _ h => by simp at h, fun j k u x _ h => by simp at h, fun j k u x h => by simp at h⟩
      have := Own.made 26 (wa.alloc (.cells #[] 26)) wa.heap.size 1 encV (by simp)
      rw [show (wa.alloc (.cells #[] 26)).heap.size = wa.heap.size + 1 by simp] at this
      exact this
    have hB0 : Below wa.heap.size wa ((wa.alloc (.cells #[] 26)).alloc (.cells #[] 26)) := ((Below.refl _ _).alloc (Nat.le_refl _) _).alloc (by simp) _
    go_loopw [7, 8, 9] (fun s7 s8 s9 wr => ∃ (i : Nat) (va vb : List Value), i ≤ n ∧ s9 = .int .i64 i ∧ Hid (va.length = i) ∧ Hid (vb.length = i) ∧ Hid (Cp wr wa.heap.size M M s7 s8 va vb) ∧ Below wa.heap.size wa wr) (fun _ _ s9 _ => n - (intOf s9).toNat)
    case atStart => exact ⟨0, [], [], Nat.zero_le _, rfl, rfl, rfl, hC0, hB0⟩
    case round =>
      clear hC0 hB0
      obtain ⟨i, va, vb, hi, rfl, hva, hvb, hC, hB⟩ := hrel
      by_cases hlt : i < n
      · have hMr := HM.out.below hB
        obtain ⟨ai, mi, ci, hci, hmi, hri, hmc, hcc⟩ := hMr.at (k := i) (by rw [hn.out]; omega)
        have hme : n = mi := by rw [← hmi.out, ← hn.out]; exact (HP.out.row (by rw [hn.out]; omega)).symm
        subst hme
        obtain ⟨bi, oi, rfl⟩ := hri.some (by omega)
        have hIr : Hid (∀ w', Below wa.heap.size wa w' → Ints w' (.slice (some ⟨bi, oi, none⟩) n ci) (M.getD i [])) := by
          obtain ⟨ai2, mi2, ci2, hci2, hmi2, hri2, hmc2, hcc2⟩ := HM.out.at (k := i) (by rw [hn.out]; omega)
          have e := (hB.cell (World.block_lt_of_cell? wa _ hci2)).trans hci2
          rw [hci] at e
          injection e with e; injection e with e1 e2 e3
          rw [← e1, ← e2, ← e3] at hri2
          exact fun w' h' => hri2.below h'
        have hcI : Hid (∀ w', Below wa.heap.size wa w' → w'.cell? ⟨b0, off + i, none⟩ = some (.slice (some ⟨bi, oi, none⟩) n ci)) := by
          obtain ⟨ai2, mi2, ci2, hci2, _⟩ := HM.out.at (k := i) (by rw [hn.out]; omega)
          have e := (hB.cell (World.block_lt_of_cell? wa _ hci2)).trans hci2
          rw [hci] at e
          rw [← e] at hci2
          exact fun w' h' => (h'.cell (World.block_lt_of_cell? wa _ hci2)).trans hci2
        have hsa := hB.size
        have hal : va.length ≤ 5 := by rw [hva.out]; omega
        have hbl : vb.length ≤ 5 := by rw [hvb.out]; omega
        have hgA : Hid (M.getD va.length [] = M.getD i []) := by show _ = _; rw [hva.out]
        have hgB : Hid (M.getD vb.length [] = M.getD i []) := by show _ = _; rw [hvb.out]
        clear hri hMr hci
        have hci := hcI.out _ (hB.alloc hsa (.cells #[] 3))
        go_wp2_with (first | (at_builtin; refine wpList_apps rfl _ _ 26 rfl 3 (.int .i64 0) 1 8 Try.underlying26 infoInt rfl (by decide) (by decide) _ encI (fun _ => rfl) (fun _ u hu => by simp [encI] at hu; subst hu; rfl) _ [] rfl (Own.made _ _ _ _ _ (Nat.le_refl _)) bi oi n ci (M.getD i []) rfl (hIr.out _ (hB.alloc (by omega) _)) (by simp; omega) (by simp) ?_; intro u9 wy hO9 hg9 hb9 hf9 hz9; have hbq := ((Below.refl _ _).alloc (Nat.le_refl _) _).trans hb9; have hnw := hC.out.fresh hO9.ge; have hsz8 := hbq.size; have hu := Own.base (B := wa.heap.size) hO9 (by omega); rw [List.nil_append] at hu; obtain ⟨g9, c9, hu9e, hn9⟩ : ∃ g9 c9, u9 = .slice (some ⟨g9, 0, none⟩) n c9 ∧ n ≤ c9 := own_some' hu hmi.out (by omega); subst hu9e; have huA := hu; rw [← hgA.out] at huA; have huB := hu; rw [← hgB.out] at huB; replace hC := Lib.hid (hC.out.below hbq); replace hB := hB.trans (hbq.mono (by omega)); clear hg9 hf9 hz9 hO9 hb9 hbq) | (at_builtin; refine wpList_app rfl _ _ 23 rfl 26 (.slice none 0 0) 1 24 Try.underlying23 infoRow rfl (by decide) (by decide) wa.heap.size encV _ _ rfl (hC.out.a.alloc _) (.slice (some ⟨g9, 0, none⟩) n c9) ⟨_, 0, none⟩ 1 rfl rfl (cells_new _ _ _) (by simp [encV, Value.oneCell']) (by omega) (by simp only [World.size_alloc]; omega) ?_; intro v' wx hO1 hg1 hb1 hf1; (have hsz9 := hb1.size; simp only [World.size_alloc] at hsz9; replace hC := Lib.hid (hC.out.addA2 huA hnw hO1 hg1 hf1); replace hB := (hB.alloc (by omega) _).trans hb1; replace hci := hcI.out _ (hB.alloc (by omega) (.cells #[] 3)); clear hO1 hg1 hb1 hf1)) | (at_builtin; refine wpList_app rfl _ _ 23 rfl 26 (.slice none 0 0) 1 24 Try.underlying23 infoRow rfl (by decide) (by decide) wa.heap.size encV _ _ rfl (hC.out.b.alloc _) (.slice (some ⟨g9, 0, none⟩) n c9) ⟨_, 0, none⟩ 1 rfl rfl (cells_new _ _ _) (by simp [encV, Value.oneCell']) (by omega) (by simp only [World.size_alloc]; omega) ?_; intro v' wx hO1 hg1 hb1 hf1; (have hsz9 := hb1.size; simp only [World.size_alloc] at hsz9; replace hC := Lib.hid ((hC.out.swap.addA2 huB (fun x hx => hnw x hx.symm) hO1 hg1 hf1).swap); replace hB := (hB.alloc (by omega) _).trans hb1; replace hci := hcI.out _ (hB.alloc (by omega) (.cells #[] 3)); clear hO1 hg1 hb1 hf1)))
        go_roundw
        case rel => exact ⟨i + 1, _, _, by omega, by go_num, by show _ = _; rw [List.length_append, hva.out]; rfl, by show _ = _; rw [List.length_append, hvb.out]; rfl, hC, hB⟩
        case measure => simp [intOf]; omega
      · obtain rfl : i = n := by omega
        obtain ⟨q, hq⟩ : ∃ q : Nat, (n1 : Int) % (i : Int) = (q : Int) := ⟨n1 % i, by simp⟩
        have hqn : q < i := by have := Int.emod_lt_of_pos (n1 : Int) (show 0 < (i : Int) by omega); omega
        obtain ⟨p, hp⟩ : ∃ p : Nat, ((q : Int) + 1) % (i : Int) = (p : Int) := ⟨(q + 1) % i, by simp⟩
        have hpn : p < i := by have := Int.emod_lt_of_pos ((q : Int) + 1) (show 0 < (i : Int) by omega); omega
        have hqp : Hid (2 ≤ i → q ≠ p) := fun h2 e => by
          subst e
          have := Int.emod_add_mul_ediv ((q : Int) + 1) (i : Int)
          by_cases hlast : q + 1 = i
          · rw [show (q : Int) + 1 = (i : Int) by omega, Int.emod_self] at hp; omega
          · rw [Int.emod_eq_of_lt (by omega) (by omega)] at hp; omega
        have hnz : ((i : Int) == 0) = false := by simp; omega
        obtain ⟨gA, cA, eA, hcA⟩ := own_some' hC.out.a hva.out (by omega)
        obtain ⟨gB, cB, eB, hcB⟩ := own_some' hC.out.b hvb.out (by omega)
        subst eA
        subst eB
        obtain ⟨u, hu⟩ := get_of hva.out hqn
        obtain ⟨x, hx⟩ := get_of hvb.out hqn
        have hrl : (M.getD q []).length = i := by rw [HP.out.row (by rw [hn.out]; omega), hn.out]
        obtain ⟨gq, cq, eq, hcq⟩ := own_some' (hC.out.ra q u hu) hrl (by omega)
        obtain ⟨gx, cx, ex, hcx⟩ := own_some' (hC.out.rb q x hx) hrl (by omega)
        subst eq
        subst ex
        have cA0 := own_at hC.out.a hu
        obtain ⟨y, hy⟩ := get_of hrl hpn
        obtain ⟨cy, fy⟩ := (hC.out.ra q _ hu).cell hy
        have hym : y = mget M q p := by unfold mget; simp [List.getD] at hy ⊢; rw [hy]; rfl
        have hyb := ((HP.out.1 q (by rw [hn.out]; omega)).2 p (by rw [hn.out]; omega)).2.1
        rw [← hym] at hyb
        obtain ⟨y0, y3⟩ := hyb
        obtain ⟨z, hz⟩ : ∃ z, (y + 1) % 4 = z := ⟨_, rfl⟩
        have hC2 := Lib.hid (hC.out.put (by rw [hva.out, hn.out]) hu z (j := p) (by omega))
        have hsa : Hid (2 ≤ i → decide (RelsP (putM M q p z)) = false) := fun h2 => decide_eq_false (spoil_a HP.out (by rw [hn.out]; omega) (by rw [hn.out]; omega) (hqp.out h2) (by rw [← hz, hym]))
        have hsb := decide_eq_false (spoil_b HP.out (i := q) (by rw [hn.out]; omega))
        have HY := Lib.hid hym
        clear hym
        have cB0 := own_at hC2.out.b hx
        obtain ⟨y2, hy2⟩ := get_of hrl hqn
        obtain ⟨cy2, fy2⟩ := (hC2.out.rb q _ hx).cell hy2
        have hC3 := Lib.hid ((hC2.out.swap.put (by rw [hvb.out, hn.out]) hx 2 (j := q) (by omega)).swap)
        have hlo1 := (hC.out.ra q _ hu).ge gq rfl
        have hlo2 := (hC.out.rb q _ hx).ge gx rfl
        have hB2 := (hB.setCell (p := ⟨gq, p, none⟩) hlo1 (.int .i64 z)).setCell (p := ⟨gx, q, none⟩) hlo2 (.int .i64 2)
        clear hlo1 hlo2 hx hy hy2 hB
        have hMa := hC3.out.mat (by rw [putM_len, hva.out, hn.out])
        have hMb := hC3.out.swap.mat (by rw [putM_len, hvb.out, hn.out])
        have hFz := HF.out.below hB2
        have dn5 : decide ((i : Int) ≤ 5) = true := by simp; omega
        have dn5' : decide (i ≤ 5) = true := by simp [hn5]
        by_cases h2 : i < 2
        · have d2 : decide ((i : Int) < 2) = true := by simp; omega
          have d2' : decide (i < 2) = true := by simp [h2]
          clear h2
          go_upto_region 16 with (fail)
          go_region
          go_wp2_with fail
          refine (iRelsOk_any _ _ _ (hMb.below (Below.refl _ _).drew)).mono ?_; rintro e wx ⟨rfl, hbx⟩
          replace hFz := hFz.drew.below hbx
          clear hbx
          go_wp2
          go_ret
          exact ⟨rfl, hFz.kp⟩
        · have d2 : decide ((i : Int) < 2) = false := by simp; omega
          have d2' : decide (i < 2) = false := by simp; omega
          have hsa2 := hsa.out (by omega)
          clear h2
          go_upto_region 16 with (fail)
          go_region
          go_wp2_with fail
          refine (iRelsOk_any _ _ _ (hMa.below (Below.refl _ _).drew)).mono ?_; rintro e wx ⟨rfl, hbx⟩
          replace hFz := hFz.drew.below hbx
          replace hMb := (hMb.below (Below.refl _ _).drew).below hbx
          clear hbx
          go_wp2_with fail
          refine (iRelsOk_any _ _ _ hMb).mono ?_; rintro e wy ⟨rfl, hbx⟩
          replace hFz := hFz.below hbx
          clear hbx
          go_wp2
          go_ret
          exact ⟨rfl, hFz.kp⟩
  · have d1 : decide (RelsP M) = false := by simp [hp]
    obtain ⟨ao, m, c, rfl, -, -⟩ := hM.sl
    clear hp
    go_wp2_with (first | (go_at_call 14; go_must (refine (iRelsOk_any _ M _ hM).mono ?_); rintro e wx ⟨rfl, hbx⟩; replace hM := hM.below hbx; replace hF := hF.below hbx; clear hbx) | (go_at_call 15; go_must (refine (sRelsOk_any _ M _ hM).mono ?_); rintro e wx ⟨rfl, hbx⟩; replace hM := hM.below hbx; replace hF := hF.below hbx; clear hbx))
    go_ret
    exact ⟨rfl, hF.kp⟩
end Go.Proofs.Ytfckmgeakdbdfaa
