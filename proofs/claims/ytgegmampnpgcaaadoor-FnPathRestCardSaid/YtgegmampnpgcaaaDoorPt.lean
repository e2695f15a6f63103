/- The text of a path: plain laws. -/
import Derived.Test.YtgegmampnpgcaaaDoorEs
import Derived.Test.YtgegmampnpgcaaaDoorEe
import Derived.Lib.Join
set_option linter.unusedSimpArgs false
set_option linter.unusedVariables false
namespace Go.Proofs.YtgegmampnpgcaaaDoor
open Go.RowKit

/-- Numbers, strokes between. -/
def pts : List Int → List UInt8
  | [] => []
  | [x] => Lib.itoa x
  | x :: y :: r => Lib.itoa x ++ 45 :: pts (y :: r)
theorem tail_pts : ∀ (y : Int) (r : List Int), Lib.joinTail [45] ((y :: r).map Lib.itoa) = 45 :: pts (y :: r)
  | y, [] => by simp [Lib.joinTail, pts]
  | y, z :: r => by
    have ih := tail_pts z r
    unfold Lib.joinTail at ih ⊢
    rw [List.map_cons, List.map_cons, List.flatten_cons, ih]
    simp [pts]
theorem pts_join : ∀ (L : List Int), Lib.join (L.map Lib.itoa) [45] = pts L
  | [] => rfl
  | [x] => by simp [Lib.join_one, pts]
  | x :: y :: r => by rw [List.map_cons, Lib.join_cons, tail_pts]; rfl
theorem pts_snoc : ∀ (L : List Int) (x : Int), L ≠ [] → pts (L ++ [x]) = pts L ++ 45 :: Lib.itoa x
  | [], _, h => absurd rfl h
  | [y], x, _ => by simp [pts]
  | y :: z :: r, x, _ => by
    have ih := pts_snoc (z :: r) x (by simp)
    simp only [List.cons_append, pts] at ih ⊢
    rw [ih]; simp
theorem pts_inj : ∀ {L K : List Int}, (∀ x ∈ L, 0 ≤ x) → (∀ x ∈ K, 0 ≤ x) → L ≠ [] → K ≠ [] → pts L = pts K → L = K
  | [], _, _, _, h, _, _ => absurd rfl h
  | _, [], _, _, _, h, _ => absurd rfl h
  | [x], [y], hL, hK, _, _, h => by
    simp only [pts] at h
    rw [itoa_inj (hL x (by simp)) (hK y (by simp)) h]
  | [x], y :: z :: r, hL, hK, _, _, h => by
    simp only [pts] at h
    exact absurd (by rw [h]; simp) (itoa_no45 (hL x (by simp)))
  | y :: z :: r, [x], hL, hK, _, _, h => by
    simp only [pts] at h
    exact absurd (by rw [← h]; simp) (itoa_no45 (hK x (by simp)))
  | x :: a :: L, y :: b :: K, hL, hK, _, _, h => by
    simp only [pts] at h
    have h3 := cut_at (itoa_no45 (hL x (by simp))) (itoa_no45 (hK y (by simp))) h
    have h4 := pts_inj (L := a :: L) (K := b :: K) (fun q hq => hL q (List.mem_cons_of_mem _ hq)) (fun q hq => hK q (List.mem_cons_of_mem _ hq)) (by simp) (by simp) h3.2
    rw [itoa_inj (hL x (by simp)) (hK y (by simp)) h3.1, h4]
theorem pts_ne : ∀ {L : List Int}, (∀ x ∈ L, 0 ≤ x) → L ≠ [] → pts L ≠ []
  | [], _, h => absurd rfl h
  | [x], hL, _ => itoa_ne (hL x (by simp))
  | x :: y :: r, hL, _ => by simp [pts]
theorem pts_dot : ∀ {L : List Int}, (∀ x ∈ L, 0 ≤ x) → pts L ≠ [46]
  | [], _, h => by simp [pts] at h
  | [x], hL, h => by
    simp only [pts] at h
    rw [itoa_nat (hL x (by simp))] at h
    have := (dd_dig x.toNat 46 (by rw [h]; simp)).1
    exact absurd this (by decide)
  | x :: y :: r, hL, h => by
    simp only [pts] at h
    have := congrArg List.length h
    have h2 := List.length_pos_iff.2 (itoa_ne (hL x (by simp)))
    simp at this; omega
theorem itoa_len1 {x : Int} (h0 : 0 ≤ x) (h : x ≤ 9) : (Lib.itoa x).length = 1 := by
  rw [itoa_nat h0, Lib.decDigits, dif_pos (by omega)]; rfl
theorem pts_len : ∀ {L : List Int}, (∀ x ∈ L, 0 ≤ x ∧ x ≤ 9) → (pts L).length ≤ 2 * L.length
  | [], _ => by simp [pts]
  | [x], h => by have := itoa_len1 (h x (by simp)).1 (h x (by simp)).2; simp [pts, this]
  | x :: y :: r, h => by
    have h1 := itoa_len1 (h x (by simp)).1 (h x (by simp)).2
    have ih := pts_len (L := y :: r) fun q hq => h q (List.mem_cons_of_mem _ hq)
    simp only [pts, List.length_append, List.length_cons] at ih ⊢
    omega
/-- What PathText returns. -/
def ptl (L : List Int) : List UInt8 := if POk L then (if L = [] then [46] else pts L) else []
def PT (L : List Int) : ByteArray := ⟨(ptl L).toArray⟩
theorem pok_nn {L : List Int} (h : POk L) : ∀ x ∈ L, 0 ≤ x := fun x hx => by have := (h.1 x hx).1; omega
theorem ptl_inj {L K : List Int} (h1 : POk L) (h2 : POk K) (h : ptl L = ptl K) : L = K := by
  unfold ptl at h
  rw [if_pos h1, if_pos h2] at h
  by_cases e1 : L = []
  · by_cases e2 : K = []
    · rw [e1, e2]
    · rw [if_pos e1, if_neg e2] at h; exact absurd h.symm (pts_dot (pok_nn h2))
  · by_cases e2 : K = []
    · rw [if_neg e1, if_pos e2] at h; exact absurd h (pts_dot (pok_nn h1))
    · rw [if_neg e1, if_neg e2] at h; exact pts_inj (pok_nn h1) (pok_nn h2) e1 e2 h
theorem PT_list (L : List Int) : (PT L).data.toList = ptl L := rfl
theorem PT_inj {L K : List Int} (h1 : POk L) (h2 : POk K) : PT L = PT K ↔ L = K :=
  ⟨fun h => ptl_inj h1 h2 (by rw [← PT_list, ← PT_list, h]), fun h => by rw [h]⟩
end Go.Proofs.YtgegmampnpgcaaaDoor
