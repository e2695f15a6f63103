/- RangeHalf of the program: a range over a function. -/
import Derived.RangeFuncNested
import Derived.RangeFuncBound
import Derived.RangeFuncCalls
import Derived.RangeFuncLeaves
import Derived.Shelf.Abstract
import Derived.Shelf.RegionOpen
import Derived.OwnWalkIn
import Derived.TacticsInMore
import Derived.LoopNIn
import Derived.LoopIn
import Derived.IntWalk
import Derived.Test.YtbhenfegklgkoaaHq
import Derived.Test.YtbhenfegklgkoaaB4
set_option linter.unusedSimpArgs false
set_option linter.unusedVariables false
namespace Go.Proofs.Ytbhenfegklgkoaa
open Go.RowKit Go.Shelf
attribute [local go_sem] Oper.semAt_some

/-- What halves yields. -/
def halvesL (f b : Int) : List (Int × Int) := if b = 8 then [] else [(f, b + 1), (f + sz b / 2, b + 1)]
def encH (x : Int × Int) : Array Value := #[.agg #[.int .i64 x.1, .int .i64 x.2]]

theorem halves_in (n : Nat) (f b : Int) (w : World) :
    CallsIn Fence.wide n Try.prog 65 #[.agg #[.int .i64 f, .int .i64 b]] w fun e w' => e = .returned (.func (.func 76) #[] #[.pointer (some ⟨w.heap.size, 0, none⟩)]) ∧ w' = w.alloc (.cells #[.int .i64 f, .int .i64 b] 27) := by
  refine callsIn_of_wp Try.func65 rfl trivial ?_ rfl
  simp only [Try.ntmps65, List.size_toArray, List.length_cons, List.length_nil, Nat.reduceAdd, Nat.reduceSub, Array.replicate_succ, Array.replicate_zero, List.push_toArray, List.append_toArray, List.nil_append, List.cons_append]
  gi_wp2
  go_ret
  exact ⟨rfl, rfl⟩

set_option maxRecDepth 100000 in
set_option maxHeartbeats 1000000 in
theorem halves1_in (n : Nat) (hn : 2 ≤ n) (l Bn : Nat) (f b : Int) (hf : 0 ≤ f ∧ f ≤ 255) (hb0 : 0 ≤ b) (hb8 : b ≤ 8) (J Jx : List (Int × Int) → World → Prop)
    (hJ : ∀ s W W', J s W → Below W.heap.size W W' → J s W')
    (hY : ∀ pre x W, J pre W → pre.length < 2 → YieldAt Fence.wide (n - 1) Try.prog l (encH x) W fun e W' =>
      (e = .returned (.bool true) ∧ J (pre ++ [x]) W' ∧ Below (Bn + 1) W W') ∨ (e = .returned (.bool false) ∧ Jx (pre ++ [x]) W'))
    (W : World) (hc0 : W.cell? ⟨Bn, 0, none⟩ = some (.int .i64 f)) (hc1 : W.cell? ⟨Bn, 1, none⟩ = some (.int .i64 b)) (h0 : J [] W) :
    CallsIn Fence.wide n Try.prog 76 #[.func (.yield l) #[] #[], .pointer (some ⟨Bn, 0, none⟩)] W fun e W' => (∃ v, e = .returned v) ∧
      ((∃ ys, ys = halvesL f b ∧ J ys W') ∨ (∃ pre, pre <+: halvesL f b ∧ Jx pre W')) := by
  refine callsIn_of_wp Try.func76 rfl trivial ?_ rfl
  simp only [Try.ntmps76, List.size_toArray, List.length_cons, List.length_nil, Nat.reduceAdd, Nat.reduceSub, Array.replicate_succ, Array.replicate_zero, List.push_toArray, List.append_toArray, List.nil_append, List.cons_append]
  by_cases h8 : b = 8
  · subst h8
    gi_wp2
    refine bodyPost_ret (v := .tuple #[]) (by simp [results, Try.results76, go_sem]) rfl ?_
    exact ⟨⟨_, rfl⟩, .inl ⟨[], by simp [halvesL], h0⟩⟩
  · have e8 : (b == 8) = false := by simp [h8]
    have hL : Hid (halvesL f b = [(f, b + 1), (f + sz b / 2, b + 1)]) := by show halvesL f b = _; simp [halvesL, h8]
    have s1 := sz_pos b
    have s2 := sz_le b hb0
    obtain ⟨fn, tmps, assign, body, hy, hR⟩ := hY [] (f, b + 1) W h0 (by simp)
    dsimp only [encH] at hy
    gi_wp2
    refine ⟨fun _ => by omega, ?_⟩
    refine hR.mono ?_
    rintro e W3 (⟨rfl, hJ3, hk3⟩ | ⟨rfl, hJx3⟩)
    · have c0 := (hk3.cell (p := ⟨Bn, 0, none⟩) (by simp)).trans hc0
      have c1 := (hk3.cell (p := ⟨Bn, 1, none⟩) (by simp)).trans hc1
      clear hc0 hc1 hk3 hR hy
      gi_wp2
      have HY := Lib.hid (fun W4 (hJ4 : J [(f, b + 1)] W4) => hY [(f, b + 1)] (f + sz b / 2, b + 1) W4 hJ4 (by simp))
      have HJ := Lib.hid (fun W' => hJ _ _ W' hJ3)
      clear hY hJ hJ3 h0
      have wd : (sz b).tdiv 2 = sz b / 2 := Int.tdiv_eq_ediv_of_nonneg (by omega)
      have wq : 0 ≤ sz b / 2 ∧ sz b / 2 ≤ 128 := by omega
      obtain ⟨wq1, wq2⟩ := wq
      have w1 : IntKind.i64.wrap (sz b / 2) = sz b / 2 := IntWalk.i64_in _ (by omega)
      have w2 : IntKind.i64.wrap (f + sz b / 2) = f + sz b / 2 := IntWalk.i64_in _ (by omega)
      have w3 : IntKind.i64.wrap (b + 1) = b + 1 := IntWalk.i64_in _ (by omega)
      gi_region_with (first
        | (refine ⟨trivial, fun _ => by omega, ?_⟩; gi_at_call 55; refine (callsIn_wide.2 (many_any f b hb0 hb8 _)).mono ?_; rintro e W4 ⟨rfl, hb4⟩; have c41 : W4.cell? ⟨Bn, 1, none⟩ = some (.int .i64 b) := (hb4.cell (p := ⟨Bn, 1, none⟩) (World.block_lt_of_cell? W3 _ c1)).trans c1; have c40 : W4.cell? ⟨Bn, 0, none⟩ = some (.int .i64 f) := (hb4.cell (p := ⟨Bn, 0, none⟩) (World.block_lt_of_cell? W3 _ c0)).trans c0; obtain ⟨fn2, tmps2, assign2, body2, hy2, hR2⟩ := HY.out W4 (HJ.out W4 (by exact ((Below.refl _ _).drew).trans hb4)); clear hb4; dsimp only [encH] at hy2; replace hR2 := Lib.hid (hR2.mono (R' := fun e W' => ∃ bo : Bool, e = .returned (.bool bo) ∧ ((bo = true ∧ J ([(f, b + 1)] ++ [(f + sz b / 2, b + 1)]) W') ∨ (bo = false ∧ Jx ([(f, b + 1)] ++ [(f + sz b / 2, b + 1)]) W'))) (by rintro e W5 (⟨rfl, h5, -⟩ | ⟨rfl, h5⟩); exact ⟨true, rfl, Or.inl ⟨rfl, h5⟩⟩; exact ⟨false, rfl, Or.inr ⟨rfl, h5⟩⟩)))
        | (refine ⟨fun _ => by omega, ?_⟩; refine hR2.out.mono ?_; rintro e W5 ⟨bo, rfl, h5⟩))
      all_goals gi_wp2
      all_goals go_end0
      all_goals
        refine ⟨⟨_, rfl⟩, ?_⟩
        rcases h5 with ⟨-, h5⟩ | ⟨-, h5⟩
        · exact .inl ⟨_, hL.out.symm, h5⟩
        · exact .inr ⟨_, by rw [hL.out]; exact List.prefix_refl _, h5⟩
    · gi_wp2
      go_end0
      exact ⟨⟨_, rfl⟩, .inr ⟨_, ⟨[(f + sz b / 2, b + 1)], by rw [hL.out]; rfl⟩, hJx3⟩⟩
end Go.Proofs.Ytbhenfegklgkoaa
