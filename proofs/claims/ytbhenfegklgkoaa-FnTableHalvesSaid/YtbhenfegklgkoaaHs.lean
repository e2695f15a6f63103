/- RangeHalf of the program. -/
import Derived.Test.YtbhenfegklgkoaaHr
set_option linter.unusedSimpArgs false
set_option linter.unusedVariables false
namespace Go.Proofs.Ytbhenfegklgkoaa
open Go.RowKit Go.Shelf
attribute [local go_sem] Oper.semAt_some

theorem cell_new2a (w : World) (u v : Value) (T : TypeId) : (w.alloc (.cells #[u, v] T)).cell? ⟨w.heap.size, 0, none⟩ = some u := by simp
theorem cell_new2b (w : World) (u v : Value) (T : TypeId) : (w.alloc (.cells #[u, v] T)).cell? ⟨w.heap.size, 1, none⟩ = some v := by simp
theorem fb_own {β : Type} {w : World} {L : List (Nat × List Value)} {B : Nat} (hW : w.heap.size ≤ B) (hL : ∀ p ∈ L, p.1 < B) : OwnFrom B (fun (_ : β) W => Fb w W L ∧ B ≤ W.heap.size) := by
  intro s A A' row ⟨h, hB⟩ hg hr
  exact ⟨h.belowB ((Below.refl B A).grown hg hB (fun k e => (hr k e).1)) hW hL, Nat.le_trans hB hg.size⟩

theorem halves_stops (n Bn : Nat) (f b : Int) (hf : 0 ≤ f ∧ f ≤ 255) (hb0 : 0 ≤ b) (hb8 : b ≤ 8) (w : World) (hBn : Bn < w.heap.size) (hc0 : w.cell? ⟨Bn, 0, none⟩ = some (.int .i64 f)) (hc1 : w.cell? ⟨Bn, 1, none⟩ = some (.int .i64 b)) (hn : 2 ≤ n := by omega) :
    SeqStopsK Fence.wide n Try.prog 76 #[.pointer (some ⟨Bn, 0, none⟩)] encH (Below (Bn + 1)) (fun ys => ys = halvesL f b) (fun pre => pre <+: halvesL f b) 2 w := fun l J Jx W hW hJ _ hY h0 =>
  halves1_in n hn l Bn f b hf hb0 hb8 J Jx (fun s A B hs hb => hJ s A B none hs (below_grownBy hb) (fun r e => by cases e)) hY W ((hW.cell (p := ⟨Bn, 0, none⟩) hBn).trans hc0) ((hW.cell (p := ⟨Bn, 1, none⟩) hBn).trans hc1) h0

set_option maxRecDepth 100000 in
set_option maxHeartbeats 4000000 in
theorem iRangeHalf_ok (f b : Int) (up : Bool) (w : World) (h : ROk f b) :
    Calls Try.prog 39 #[.agg #[.int .i64 f, .int .i64 b], .bool up] w fun e w' => e = .returned (hlfV f b up) ∧ Below w.heap.size w w' := by
  refine (callsIn_wide (n := 9)).1 ?_
  have hd : decide (ROk f b) = true := by simp [h]
  have hF := ((((Fb.start w).alloc [.int .i64 f, .int .i64 b] 27).alloc [.bool up] 4).alloc [.int .i64 0, .int .i64 0] 27).alloc [.bool false] 4
  simp only [World.size_alloc] at hF
  refine callsIn_of_wp_marks Try.func39 rfl trivial ?_ rfl
  simp only [Try.ntmps39, List.size_toArray, List.length_cons, List.length_nil, Nat.reduceAdd, Nat.reduceSub, Array.replicate_succ, Array.replicate_zero, List.push_toArray, List.append_toArray, List.nil_append, List.cons_append]
  gi_wp2_with (first
    | (refine ⟨trivial, ?_⟩; gi_at_call 53; refine (callsIn_wide.2 (iRangeOk_any f b _)).mono ?_; rintro e W1 ⟨rfl, hb1⟩; replace hF := hF.below hb1; clear hb1; have o := hF.own; simp only [World.size_alloc, World.size_drew, World.size_setCell, List.mem_cons, List.not_mem_nil, or_false, forall_eq_or_imp, forall_eq, At, and_true, Nat.zero_add, Nat.reduceAdd, List.set_cons_zero, List.set_cons_succ] at o)
    | (refine ⟨trivial, ?_⟩; gi_at_call 65; refine (halves_in _ f b _).mono ?_; rintro e W2 ⟨rfl, rfl⟩))
  have h0 := h.1
  have h8 := h.2.1
  have hf0 := h.2.2.1
  have hf8 := h.2.2.2.1
  clear o
  obtain ⟨NN, hNN⟩ : ∃ NN, NN = W1.heap.size := ⟨_, rfl⟩
  have hN4 : w.heap.size + 4 ≤ W1.heap.size := by have := (hF.own (w.heap.size + 1 + 1 + 1, [.bool false]) (by simp)).2.2; dsimp only at this; omega
  have hFb := hF.other (.cells #[.int .i64 f, .int .i64 b] 27)
  refine wpIn_rangeFunc_ownH rfl (by omega) (gf := 76) (lb := #[.pointer (some ⟨W1.heap.size, 0, none⟩)]) rfl trivial (enters_of Try.func76 (by kernel_rfl) rfl)
    (halves_stops 8 W1.heap.size f b ⟨hf0, hf8⟩ h0 h8 (W1.alloc (.cells #[.int .i64 f, .int .i64 b] 27)) (by simp) (by simp) (by simp)) belowK_t (belowK_b (by simp)) (Below.refl _ _) (fun _ => rfl)
    (fun pre W => (∀ x ∈ pre, decide (f < x.1) ≠ up) ∧ (Fb w W [(w.heap.size + 1 + 1 + 1, [.bool false]), (w.heap.size + 1 + 1, [.int .i64 0, .int .i64 0]), (w.heap.size + 1, [.bool up]), (w.heap.size, [.int .i64 f, .int .i64 b])] ∧ W1.heap.size + 1 ≤ W.heap.size))
    (fun c pre W => (c = .ret ∧ ∃ x ∈ pre, decide (f < x.1) = up ∧ (Fb w W [(w.heap.size + 1 + 1 + 1, [.bool true]), (w.heap.size + 1 + 1, [.int .i64 x.1, .int .i64 x.2]), (w.heap.size + 1, [.bool up]), (w.heap.size, [.int .i64 f, .int .i64 b])] ∧ W1.heap.size + 1 ≤ W.heap.size)))
    ?hI ?hIx ⟨by simp, hFb, by simp⟩
    (fun x a' W => ∃ Bx, W1.heap.size < Bx ∧ W.cell? ⟨Bx, 0, none⟩ = some (.int .i64 x.1) ∧ W.cell? ⟨Bx, 1, none⟩ = some (.int .i64 x.2) ∧ a' = { tmps := #[.agg #[.int .i64 f, .int .i64 b], .bool up, .pointer (some ⟨w.heap.size, 0, none⟩), .pointer (some ⟨w.heap.size + 1, 0, none⟩), .pointer (some ⟨w.heap.size + 1 + 1, 0, none⟩), .pointer (some ⟨w.heap.size + 1 + 1 + 1, 0, none⟩), .pointer (some ⟨Bx, 0, none⟩), .agg #[.int .i64 f, .int .i64 b], .bool true, .bool false, undef, .agg #[.int .i64 f, .int .i64 b], .func (.func 76) #[] #[.pointer (some ⟨W1.heap.size, 0, none⟩)], .agg #[.int .i64 x.1, .int .i64 x.2], undef, undef, undef, undef, undef, undef, undef, undef, undef], defers := [] })
    ?hAx ?assign ?body ?done ?stop
  case hI =>
    rintro s A A' row ⟨hp, hf, hB⟩ hg hr
    exact ⟨hp, hf.belowB ((Below.refl (W1.heap.size + 1) A).grown hg hB (fun k e => by have := (hr k e).1; simpa using this)) (by omega) (by simp; omega), Nat.le_trans hB hg.size⟩
  case hIx =>
    rintro c s A A' row ⟨hc, x, hx, he, hf, hB⟩ hg hr
    exact ⟨hc, x, hx, he, hf.belowB ((Below.refl (W1.heap.size + 1) A).grown hg hB (fun k e => by have := (hr k e).1; simpa using this)) (by omega) (by simp; omega), Nat.le_trans hB hg.size⟩
  case hAx =>
    rintro x a' _ A A' row ⟨Bx, h1, h2, h3, h4⟩ hg hr
    exact ⟨Bx, h1, cell_kept h2 hg (fun r e => (hr r e).2), cell_kept h3 hg (fun r e => (hr r e).2), h4⟩
  case assign =>
    rintro l pre ⟨x1, x2⟩ W K ⟨hp, hFW, hB⟩ hK
    dsimp only [encH] at hK ⊢
    gi_wp2
    refine hK _ _ ((KeepsOthers.alloc _ _).from _) ((Below.refl _ W).alloc hB _) ⟨hp, hFW.other _, by simp; omega⟩ ⟨W.heap.size, by omega, ?_, ?_, rfl⟩
    · exact cell_new2a _ _ _ _
    · exact cell_new2b _ _ _ _
  case body =>
    rintro l pre ⟨x1, x2⟩ a' W hl ⟨r, hr⟩ ⟨hp, hFW, hB⟩ ⟨Bx, hBx, hx0, hx1, rfl⟩ hlt
    clear hF hFb hr hl
    have hF := hFW
    have o := hF.own; simp only [World.size_alloc, World.size_drew, World.size_setCell, List.mem_cons, List.not_mem_nil, or_false, forall_eq_or_imp, forall_eq, At, and_true, Nat.zero_add, Nat.reduceAdd, List.set_cons_zero, List.set_cons_succ] at o
    dsimp only at hx0 hx1
    by_cases he : decide (f < x1) = up
    · have he' : (decide (f < x1) == up) = true := by simp [he]
      clear he
      gi_wp2
      have h1 : Fb w W ((w.heap.size + 1 + 1, [.int .i64 0, .int .i64 0]) :: [(w.heap.size + 1 + 1 + 1, [.bool false]), (w.heap.size + 1, [.bool up]), (w.heap.size, [.int .i64 f, .int .i64 b])]) := hF.sub (by simp)
      have h2 := (h1.set 0 (.int .i64 x1) (by simp) (by simp; omega)).set 1 (.int .i64 x2) (by simp) (by simp; omega)
      have h3 : Fb w _ ((w.heap.size + 1 + 1 + 1, [.bool false]) :: [(w.heap.size + 1 + 1, [.int .i64 x1, .int .i64 x2]), (w.heap.size + 1, [.bool up]), (w.heap.size, [.int .i64 f, .int .i64 b])]) := h2.sub (by simp)
      exact ⟨(((KeepsOthers.setCell _ _ _).trans (KeepsOthers.setCell _ _ _)).trans (KeepsOthers.setCell _ _ _)).from _, rfl, (x1, x2), by simp, by simpa using he', h3.set 0 (.bool true) (by simp) (by simp; omega), by simp; omega⟩
    · have he' : (decide (f < x1) == up) = false := by simp [he]
      have HE := Lib.hid he
      clear he
      gi_wp2
      exact ⟨(KeepsOthers.refl _).from _, Below.refl _ _, fun y hy => (by rcases List.mem_append.1 hy with h | h; exact hp y h; rw [List.mem_singleton.1 h]; exact HE.out), hF, hB⟩
  case done =>
    rintro D ys W hD rfl ⟨hp, hFW, hB⟩ hK
    have e8 : b = 8 := by
      by_cases e : b = 8
      · exact e
      · exfalso
        rw [show halvesL f b = [(f, b + 1), (f + sz b / 2, b + 1)] by simp [halvesL, e]] at hp
        have s2 : 2 ≤ sz b := by
          obtain ⟨k, rfl⟩ := Int.eq_ofNat_of_zero_le h0
          have := sz_step k (by omega); have := sz_pos ((k + 1 : Nat) : Int); omega
        have p1 := hp (f, b + 1) (by simp)
        have p2 := hp (f + sz b / 2, b + 1) (by simp)
        have q1 : decide (f < f) = false := by simp
        have q2 : decide (f < f + sz b / 2) = true := by simp; omega
        simp only [q1, q2] at p1 p2
        cases up <;> simp at p1 p2
    subst e8
    clear hF hFb
    have hF := hFW
    have o := hF.own; simp only [World.size_alloc, World.size_drew, World.size_setCell, List.mem_cons, List.not_mem_nil, or_false, forall_eq_or_imp, forall_eq, At, and_true, Nat.zero_add, Nat.reduceAdd, List.set_cons_zero, List.set_cons_succ] at o
    gi_wp2
    have hK1 := (((KeepsOthers.setCell W ⟨w.heap.size + 1 + 1, 0, none⟩ (.int .i64 0)).trans (KeepsOthers.setCell _ ⟨w.heap.size + 1 + 1, 1, none⟩ (.int .i64 0))).trans (KeepsOthers.setCell _ ⟨w.heap.size + 1 + 1 + 1, 0, none⟩ (.bool false))).same D _ hK rfl
    refine ⟨by simp, .inl ⟨_, _, rfl, run_takeDeferred hK1, ?_⟩⟩
    have g1 : Fb w W ((w.heap.size + 1 + 1, [.int .i64 0, .int .i64 0]) :: [(w.heap.size + 1 + 1 + 1, [.bool false]), (w.heap.size + 1, [.bool up]), (w.heap.size, [.int .i64 f, .int .i64 8])]) := hF.sub (by simp)
    have g2 := (g1.set 0 (.int .i64 0) (by simp) (by simp; omega)).set 1 (.int .i64 0) (by simp) (by simp; omega)
    have g3 : Fb w _ ((w.heap.size + 1 + 1 + 1, [.bool false]) :: [(w.heap.size + 1 + 1, [.int .i64 0, .int .i64 0]), (w.heap.size + 1, [.bool up]), (w.heap.size, [.int .i64 f, .int .i64 8])]) := g2.sub (by simp)
    have g4 := g3.set 0 (.bool false) (by simp) (by simp; omega)
    have g5 := g4.belowB ((Below.refl (W1.heap.size + 1) _).grown (grownBy_putObj' _ D (.deferred none)) (by simp; omega) (fun k e => by cases e; simpa using hD)) (by omega) (by simp; omega)
    have o5 := g5.own
    simp only [List.mem_cons, List.not_mem_nil, or_false, forall_eq_or_imp, forall_eq, At, and_true, Nat.zero_add, Nat.reduceAdd, List.set_cons_zero, List.set_cons_succ] at o5
    have e8 : hlfV f 8 up = .tuple #[.agg #[.int .i64 0, .int .i64 0], .bool false] := by simp [hlfV, Ytbhenfegklgkoaa.hF, Ytbhenfegklgkoaa.hB, Hlf]
    exact ⟨.tuple #[.agg #[.int .i64 0, .int .i64 0], .bool false], by simp [results, Try.results39, go_sem, o5], by rw [e8], g5.kp⟩
  case stop =>
    rintro D c pre W hD hpre ⟨rfl, ⟨x1, x2⟩, hx, he, hFW, hB⟩ hK
    clear hF hFb
    have hF := hFW
    have o := hF.own; simp only [World.size_alloc, World.size_drew, World.size_setCell, List.mem_cons, List.not_mem_nil, or_false, forall_eq_or_imp, forall_eq, At, and_true, Nat.zero_add, Nat.reduceAdd, List.set_cons_zero, List.set_cons_succ] at o
    gi_wp2
    refine ⟨by simp, .inl ⟨_, _, rfl, run_takeDeferred hK, ?_⟩⟩
    have g5 := hF.belowB ((Below.refl (W1.heap.size + 1) _).grown (grownBy_putObj' _ D (.deferred none)) (by omega) (fun k e => by cases e; simpa using hD)) (by omega) (by simp; omega)
    have o5 := g5.own
    simp only [List.mem_cons, List.not_mem_nil, or_false, forall_eq_or_imp, forall_eq, At, and_true, Nat.zero_add, Nat.reduceAdd, List.set_cons_zero, List.set_cons_succ] at o5
    have ev : hlfV f b up = .tuple #[.agg #[.int .i64 x1, .int .i64 x2], .bool true] := by
      have hx' := hpre.subset hx
      have hb : b ≠ 8 := by rintro rfl; simp [halvesL] at hx'
      have hs : sz b / 2 = sz (b + 1) := by
        obtain ⟨k, rfl⟩ := Int.eq_ofNat_of_zero_le h0
        have := sz_step k (by omega); simpa using this
      have hH : Hlf f b := ⟨h, hb⟩
      rw [show halvesL f b = [(f, b + 1), (f + sz b / 2, b + 1)] by simp [halvesL, hb]] at hx'
      have hp1 := sz_pos (b + 1)
      rcases List.mem_cons.1 hx' with e | hx'
      · injection e with e1 e2; subst e1; subst e2
        have : up = false := by rw [← he]; simp
        subst this
        simp [hlfV, Ytbhenfegklgkoaa.hF, Ytbhenfegklgkoaa.hB, hH]
      · have e := List.mem_singleton.1 hx'
        injection e with e1 e2; subst e1; subst e2
        have : up = true := by rw [← he]; simp; omega
        subst this
        simp [hlfV, Ytbhenfegklgkoaa.hF, Ytbhenfegklgkoaa.hB, hH, hs]
    exact ⟨.tuple #[.agg #[.int .i64 x1, .int .i64 x2], .bool true], by simp [results, Try.results39, go_sem, o5], by rw [ev], g5.kp⟩
set_option maxHeartbeats 1000000 in
theorem iRangeHalf_any (f b : Int) (up : Bool) (w : World) :
    Calls Try.prog 39 #[.agg #[.int .i64 f, .int .i64 b], .bool up] w fun e w' => e = .returned (hlfV f b up) ∧ Below w.heap.size w w' := by
  by_cases h : ROk f b
  · exact iRangeHalf_ok f b up w h
  · have hd : decide (ROk f b) = false := by simp [h]
    have e : hlfV f b up = .tuple #[.agg #[.int .i64 0, .int .i64 0], .bool false] := by simp [hlfV, Ytbhenfegklgkoaa.hF, Ytbhenfegklgkoaa.hB, Hlf, h]
    rw [e]; clear e
    have hF := ((((Fb.start w).alloc [.int .i64 f, .int .i64 b] 27).alloc [.bool up] 4).alloc [.int .i64 0, .int .i64 0] 27).alloc [.bool false] 4
    simp only [World.size_alloc] at hF
    go_enter Try.func39, Try.ntmps39
    go_wp2_with fail
    refine (iRangeOk_any f b _).mono ?_; rintro e w1 ⟨rfl, hb⟩
    replace hF := hF.below hb
    clear hb
    have o := hF.own; simp only [World.size_alloc, World.size_drew, World.size_setCell, List.mem_cons, List.not_mem_nil, or_false, forall_eq_or_imp, forall_eq, At, and_true, Nat.zero_add, Nat.reduceAdd, List.set_cons_zero, List.set_cons_succ] at o
    go_wp2
    have g1 : Fb w w1 ((w.heap.size + 1 + 1, [.int .i64 0, .int .i64 0]) :: [(w.heap.size + 1 + 1 + 1, [.bool false]), (w.heap.size + 1, [.bool up]), (w.heap.size, [.int .i64 f, .int .i64 b])]) := hF.sub (by simp)
    have g2 := (g1.set 0 (.int .i64 0) (by simp) (by simp; omega)).set 1 (.int .i64 0) (by simp) (by simp; omega)
    have g3 : Fb w _ ((w.heap.size + 1 + 1 + 1, [.bool false]) :: [(w.heap.size + 1 + 1, [.int .i64 0, .int .i64 0]), (w.heap.size + 1, [.bool up]), (w.heap.size, [.int .i64 f, .int .i64 b])]) := g2.sub (by simp)
    have g4 := g3.set 0 (.bool false) (by simp) (by simp; omega)
    have o5 := g4.own
    simp only [List.mem_cons, List.not_mem_nil, or_false, forall_eq_or_imp, forall_eq, At, and_true, Nat.zero_add, Nat.reduceAdd, List.set_cons_zero, List.set_cons_succ] at o5
    exact bodyPost_ret (v := .tuple #[.agg #[.int .i64 0, .int .i64 0], .bool false]) (by simp [results, Try.results39, go_sem, o5]) rfl ⟨rfl, g4.kp⟩
theorem iRangeHalf_lit (f b : Int) (up : Bool) (w : World) :
    Calls Try.prog 39 #[.agg #[.int .i64 f, .int .i64 b], .bool up] w fun e w' => e = .returned (.tuple #[.agg #[.int .i64 (hF f b up), .int .i64 (hB f b)], .bool (decide (Hlf f b))]) ∧ Below w.heap.size w w' := iRangeHalf_any f b up w
end Go.Proofs.Ytbhenfegklgkoaa
