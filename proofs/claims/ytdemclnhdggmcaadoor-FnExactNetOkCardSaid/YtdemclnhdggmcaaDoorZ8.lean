/- Two rows of numbers are the same. Ranges and entries compared; a slice compared with nil. Nets: in the beginning just home knows a way. -/
import Derived.Test.YtdemclnhdggmcaaDoorZ7
import Derived.Test.YtdemclnhdggmcaaDoorZ3
import Derived.Laws.StructEq
import Derived.Lib.SliceRun
import Derived.Test.YtdemclnhdggmcaaDoorZ4
set_option linter.unusedSimpArgs false
set_option linter.unusedVariables false
namespace Go.Proofs.YtdemclnhdggmcaaDoor
open Go.RowKit

theorem Ints.sl {w : World} {v : Value} {L : List Int} (h : Ints w v L) : ∃ ao n cap, v = .slice ao n cap ∧ Hid (L.length = n) ∧ n ≤ cap ∧ cap ≤ 9223372036854775807 := by
  obtain ⟨ao, cap, e, h1, h2, _⟩ := h.ex
  exact ⟨ao, _, cap, e, rfl, h1, h2⟩
theorem ints_nil (w : World) (ao : Option Addr) (cap : Nat) (hc : cap ≤ 9223372036854775807) : Ints w (.slice ao 0 cap) [] := Rows.nil w ao cap hc _ _
theorem take_ne {L K : List Int} {k : Nat} {p q : Int} (h1 : L[k]? = some p) (h2 : K[k]? = some q) (h : p ≠ q) : decide (L = K) = false := by
  rw [decide_eq_false_iff_not]; rintro rfl; rw [h1] at h2; injection h2 with h2; exact h h2
theorem take_eq {L K : List Int} {k : Nat} {p q : Int} (h0 : L.take k = K.take k) (h1 : L[k]? = some p) (h2 : K[k]? = some q) (h : p = q) : L.take (k + 1) = K.take (k + 1) := by
  rw [take_succ' h1, take_succ' h2, h0, h]
end Go.Proofs.YtdemclnhdggmcaaDoor
set_option linter.unusedSimpArgs false
set_option linter.unusedVariables false
namespace Go.Proofs.YtdemclnhdggmcaaDoor
open Go.RowKit

end Go.Proofs.YtdemclnhdggmcaaDoor
set_option linter.unusedSimpArgs false
set_option linter.unusedVariables false
namespace Go.Proofs.YtdemclnhdggmcaaDoor
open Go.RowKit Go.Maps Go.WideMaps

theorem ints_oneC {w : World} {u : Value} {P : List Int} (h : Ints w u P) : u.oneCell' = true := by
  obtain ⟨ao, c, e, -⟩ := h.ex; rw [e]; rfl
/-- Slices of slices of numbers. -/
def shI : Sh Value (List Int) where
  sz := 1
  enc := encV
  len _ := rfl
  pos := by decide
  subs u := [u]
  rd w u s := Ints w u s
  keep hg hs h := Rows.far h hg (hs _ (by simp))
  one h u hu := by
    simp [encV] at hu
    subst hu
    exact ints_oneC h
theorem GLs.mat {w : World} {v : Value} {M : List (List Int)} (h : GLs shI w v M) : Mat w v M := ⟨h.ex⟩
theorem Mat.gls {w : World} {v : Value} {M : List (List Int)} (h : Mat w v M) : GLs shI w v M := ⟨h.ex⟩
def noneR (home : Int) (i : Nat) : List Int := if (i : Int) + 1 = home then [home] else []
def noneL (home : Int) (n : Nat) : List (List Int) := (List.range n).map (noneR home)
theorem noneL_len (home : Int) (n : Nat) : (noneL home n).length = n := by simp [noneL]
theorem noneL_succ (home : Int) (n : Nat) : noneL home (n + 1) = noneL home n ++ [noneR home n] := by
  unfold noneL; rw [List.range_succ, List.map_append]; rfl
theorem noneL_at {home : Int} {n k : Nat} (h : k < n) : (noneL home n)[k]? = some (noneR home k) := by
  unfold noneL; rw [List.getElem?_map, List.getElem?_range h]; rfl
/-- What NetNone gives. -/
def noneW (M : List (List Int)) (home : Int) : List (List Int) := if RelsP M ∧ Bts home 1 M.length then noneL home M.length else []
theorem noneW_yes {M : List (List Int)} {home : Int} (h1 : RelsP M) (h2 : Bts home 1 M.length) : noneW M home = noneL home M.length := if_pos ⟨h1, h2⟩
theorem noneW_no {M : List (List Int)} {home : Int} (h : ¬ (RelsP M ∧ Bts home 1 M.length)) : noneW M home = [] := if_neg h
end Go.Proofs.YtdemclnhdggmcaaDoor
