/- Paths: impl.PathOk, PathHas both. -/
import Derived.Test.YtgegmampnpgcaaaDoorEd
set_option linter.unusedSimpArgs false
set_option linter.unusedVariables false
namespace Go.Proofs.YtgegmampnpgcaaaDoor
open Go.RowKit

theorem Joined.below {w w' : World} {a : Addr} {u : Value} (h : Joined w a u) (hb : Below w.heap.size w w') : Joined w' a u := by
  obtain ⟨pb, g, n, c, e, hn, h1, h2⟩ := h
  exact ⟨pb, g, n, c, e, hn, (hb.cell (World.block_lt_of_cell? _ _ h1)).trans h1, (hb.cell (World.block_lt_of_cell? _ _ h2)).trans h2⟩
theorem is_joined (u : Value) (a : Addr) (w : World) (h : Joined w a u) :
    Calls Tryd.prog 49 #[u, .iface 112 (.pointer (some a))] w fun e w' => e = .returned (.bool true) ∧ w' = w := by
  obtain ⟨pb, g, n, c, rfl, hn, h1, h2⟩ := h
  exact is_join pb g n c a w hn h1 h2
theorem iPathOk_any (v : Value) (L : List Int) (a : Addr) (w : World) (hv : Ints w v L) (hE : EPath w a) :
    Calls Tryd.prog 19 #[v] w fun e w' => e = .returned (.bool (decide (POk L))) ∧ Below w.heap.size w w' := by
  have HE := Lib.hid hE
  obtain ⟨ao, cap, rfl, -⟩ := hv.ex
  go_enter Tryd.func19, Tryd.ntmps19
  go_wp2_with fail
  refine (readTrail_any _ L a _ hv hE).mono ?_; rintro e w1 ⟨⟨hp, rfl⟩ | ⟨hp, u, rfl, hJ⟩, hb1⟩
  all_goals
    clear hE hv
    have hEa := EPath.allocd (HE.out.below hb1)
  · have d : decide (POk L) = true := decide_eq_true hp
    clear hp
    go_wp2_with (go_at_call 49; refine (is_nil _ _).mono ?_; rintro e w2 ⟨rfl, rfl⟩)
    go_ret
    exact ⟨by rw [d]; rfl, hb1.alloc hb1.size _⟩
  · have d : decide (POk L) = false := decide_eq_false hp
    have hJa := fun o => hJ.below ((Below.refl _ _).alloc (Nat.le_refl _) o)
    clear hp
    go_wp2_with (go_at_call 49; refine (is_joined _ _ _ (hJa _)).mono ?_; rintro e w2 ⟨rfl, rfl⟩)
    go_ret
    exact ⟨by rw [d]; rfl, hb1.alloc hb1.size _⟩
/-- A house is on a path. -/
def Has (L : List Int) (h : Int) : Prop := POk L ∧ h ∈ L
instance (L : List Int) (h : Int) : Decidable (Has L h) := by unfold Has; infer_instance
theorem iPathHas_any (v : Value) (L : List Int) (h : Int) (a : Addr) (w : World) (hv : Ints w v L) (hE : EPath w a) :
    Calls Tryd.prog 17 #[v, .int .i64 h] w fun e w' => e = .returned (.bool (decide (Has L h))) ∧ Below w.heap.size w w' := by
  have HE := Lib.hid hE
  obtain ⟨ao, cap, rfl, -⟩ := hv.ex
  go_enter Tryd.func17, Tryd.ntmps17
  go_wp2_with fail
  refine (readTrail_any _ L a _ hv hE).mono ?_; rintro e w1 ⟨⟨hp, rfl⟩ | ⟨hp, u, rfl, hJ⟩, hb1⟩
  all_goals
    clear hE hv
    have hEa := EPath.allocd (HE.out.below hb1)
  · have d : decide (Has L h) = (decide (Bts h 1 5) && decide (h ∈ L)) := by
      rw [← Bool.decide_and]; exact decide_eq_decide.2 ⟨fun g => ⟨hp.1 h g.2, g.2⟩, fun g => ⟨hp, g.2⟩⟩
    have D := Lib.hid d
    clear hp d
    go_wp2_with (first | (go_at_call 49; refine (is_nil _ _).mono ?_; rintro e w2 ⟨rfl, rfl⟩) | (go_at_call 50; refine (has_any L h _ _).mono ?_; rintro e w2 ⟨rfl, hb2⟩))
    go_ret
    exact ⟨by rw [D.out]; rfl, (hb1.alloc hb1.size _).trans (hb2.mono (hb1.alloc hb1.size _).size)⟩
  · have d : decide (Has L h) = false := decide_eq_false fun g => hp g.1
    have hJa := fun o => hJ.below ((Below.refl _ _).alloc (Nat.le_refl _) o)
    have D := Lib.hid d
    clear hp d
    go_wp2_with (go_at_call 49; refine (is_joined _ _ _ (hJa _)).mono ?_; rintro e w2 ⟨rfl, rfl⟩)
    go_ret
    exact ⟨by rw [D.out]; rfl, hb1.alloc hb1.size _⟩
end Go.Proofs.YtgegmampnpgcaaaDoor
