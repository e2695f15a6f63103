/- Ranges: which stands ahead. -/
import Derived.Test.YtgegmampnpgcaaaDoorR1
import Derived.Test.YtgegmampnpgcaaaDoorRc
set_option linter.unusedSimpArgs false
set_option linter.unusedVariables false
namespace Go.Proofs.YtgegmampnpgcaaaDoor
open Go.RowKit

def rcmp (f b g c : Int) : Int := if icmp f g ≠ 0 then icmp f g else icmp b c
def RC (f b g c : Int) : Int := if ROk f b ∧ ROk g c then rcmp f b g c else 0
theorem iRangeCmp_any (f b g c : Int) (w : World) :
    Calls Tryd.prog 64 #[.agg #[.int .i64 f, .int .i64 b], .agg #[.int .i64 g, .int .i64 c]] w fun e w' => e = .returned (.int .i64 (RC f b g c)) ∧ Below w.heap.size w w' := by
  unfold RC
  by_cases h : ROk f b
  · have hd : decide (ROk f b) = true := by simp [h]
    by_cases h' : ROk g c
    · have hd' : decide (ROk g c) = true := by simp [h']
      rw [if_pos ⟨h, h'⟩]
      go_enter Tryd.func64, Tryd.ntmps64
      go_wp2_with fail
      refine (iRangeOk_any f b _).mono ?_; rintro e w1 ⟨rfl, hb⟩
      have c1 := (bcell hb).1
      go_wp2_with fail
      refine (iRangeOk_any g c _).mono ?_; rintro e w2 ⟨rfl, hb2⟩
      replace hb := hb.trans (hb2.mono hb.size)
      clear c1
      have c2 : w2.cell? ⟨w.heap.size, 0, none⟩ = some (.int .i64 f) ∧ w2.cell? ⟨w.heap.size, 1, none⟩ = some (.int .i64 b) ∧ w2.cell? ⟨w.heap.size + 1, 0, none⟩ = some (.int .i64 g) ∧ w2.cell? ⟨w.heap.size + 1, 1, none⟩ = some (.int .i64 c) :=
        ⟨(hb.cell (by simp; omega)).trans (by simp), (hb.cell (by simp; omega)).trans (by simp), (hb.cell (by simp)).trans (by simp), (hb.cell (by simp)).trans (by simp)⟩
      have hs := hb.size
      go_wp2_with fail
      go_region_held3 (fun w' => w'.cell? ⟨w.heap.size, 0, none⟩ = some (.int .i64 f) ∧ w'.cell? ⟨w.heap.size, 1, none⟩ = some (.int .i64 b) ∧ w'.cell? ⟨w.heap.size + 1, 0, none⟩ = some (.int .i64 g) ∧ w'.cell? ⟨w.heap.size + 1, 1, none⟩ = some (.int .i64 c)) (first | (simp [c2]; done) | go_keep)
        (first
          | (go_at_call 60; refine (compare_any _ _ _).mono ?_; rintro e w' ⟨rfl, rfl⟩)
          | (go_at_call 59; refine (or_any _ 0 2 [icmp f g, icmp b c] _ ?_ (by simp)).mono ?_; (intro i hi; match i, hi with | 0, _ => simp | 1, _ => simp); rintro e w' ⟨rfl, rfl⟩))
      all_goals go_wp2
      all_goals go_ret
      all_goals refine ⟨ret_int ?_, (((Below.refl _ _).alloc (Nat.le_refl _) _).alloc (by simp) _).trans ((((hb.drew).alloc hs _)).mono (by simp; omega))⟩
      all_goals (simp only [orI_cons, orI_nil, rcmp]; split <;> (try split) <;> simp_all)
    · have hd' : decide (ROk g c) = false := by simp [h']
      rw [if_neg (fun x => h' x.2)]
      go_enter Tryd.func64, Tryd.ntmps64
      go_wp2_with fail
      refine (iRangeOk_any f b _).mono ?_; rintro e w1 ⟨rfl, hb⟩
      have c1 := (bcell hb).1
      go_wp2_with fail
      refine (iRangeOk_any g c _).mono ?_; rintro e w2 ⟨rfl, hb2⟩
      replace hb := hb.trans (hb2.mono hb.size)
      go_wp2
      go_ret
      exact ⟨rfl, (((Below.refl _ _).alloc (Nat.le_refl _) _).alloc (by simp) _).trans (hb.mono (by simp; omega))⟩
  · have hd : decide (ROk f b) = false := by simp [h]
    rw [if_neg (fun x => h x.1)]
    go_enter Tryd.func64, Tryd.ntmps64
    go_wp2_with fail
    refine (iRangeOk_any f b _).mono ?_; rintro e w1 ⟨rfl, hb⟩
    go_wp2
    go_ret
    exact ⟨rfl, (((Below.refl _ _).alloc (Nat.le_refl _) _).alloc (by simp) _).trans (hb.mono (by simp; omega))⟩
theorem l1Cmp_any (f b g c : Int) (w : World) :
    Calls Tryd.prog 85 #[.agg #[.int .i64 f, .int .i64 b], .agg #[.int .i64 g, .int .i64 c]] w fun e w' => e = .returned (.int .i64 (rcmp f b g c)) ∧ Below w.heap.size w w' := by
  have e : rcmp f b g c = if f < g then -1 else if g < f then 1 else if b < c then -1 else if c < b then 1 else 0 := by
    unfold rcmp icmp; by_cases h1 : f < g <;> by_cases h2 : g < f <;> simp [h1, h2]
  have E := Lib.hid e; clear e
  go_enter Tryd.func85, Tryd.ntmps85
  go_wp2
  all_goals go_ret
  all_goals refine ⟨ret_int ?_, (((Below.refl _ _).alloc (Nat.le_refl _) _).alloc (by simp) _)⟩
  all_goals rw [E.out]
  all_goals (repeat' split) <;> first | rfl | omega
end Go.Proofs.YtgegmampnpgcaaaDoor
