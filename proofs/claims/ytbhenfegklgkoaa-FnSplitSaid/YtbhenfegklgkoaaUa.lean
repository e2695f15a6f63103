/- Law on leaving out: FnTableLess. -/
import Derived.Test.YtbhenfegklgkoaaTz
set_option linter.unusedSimpArgs false
set_option linter.unusedVariables false
namespace Go.Proofs.Ytbhenfegklgkoaa
open Go.RowKit

theorem fnd_ext {T U : List Ent} (hT : TOk T) (hU : TOk U) {a : Nat} (ha : a < 256) (h : ∀ x, covE a x → (x ∈ T ↔ x ∈ U)) : fnd T a = fnd U a := by
  by_cases hx : ∃ x ∈ T, covE a x
  · obtain ⟨z, hz, cz, hm⟩ := best_ex a T hx
    rw [fnd_best hT ha hz cz hm]
    exact (fnd_best hU ha ((h z cz).1 hz) cz fun y hy cy => hm y ((h y cy).2 hy) cy).symm
  · rw [fnd_none hT ha fun x h1 h2 => hx ⟨x, h1, h2⟩]
    exact (fnd_none hU ha fun x h1 h2 => hx ⟨x, (h x h2).2 h1, h2⟩).symm
theorem lst_mono {T : List Ent} {k : Nat} {y : Ent} (h : y ∈ lst T (k + 1)) : y ∈ lst T k := by
  unfold lst at h
  split at h
  · exact (drp_mem.1 h).1
  · exact h
theorem lst_le {T : List Ent} {k m : Nat} {y : Ent} (hkm : k ≤ m) (h : y ∈ lst T m) : y ∈ lst T k := by
  induction m with
  | zero => obtain rfl : k = 0 := by omega
            exact h
  | succ m ih =>
    by_cases e : k = m + 1
    · subst e; exact h
    · exact ih (by omega) (lst_mono h)
theorem lst_sub {T : List Ent} {k : Nat} {y : Ent} (h : y ∈ lst T k) : y ∈ T := lst_le (Nat.zero_le k) h
theorem lst_same (T : List Ent) : ∀ k, SmT (lst T k) T
  | 0 => fun _ _ => rfl
  | k + 1 => fun a ha => by
    have ih := lst_same T k
    unfold lst
    split
    · rename_i g; exact (g a ha).trans (ih a ha)
    · exact ih a ha
theorem lst_keep {T : List Ent} (hT : TOk T) {i k m : Nat} {y : Ent} (hy : T[i]? = some y) (hik : i < k) (hkm : k ≤ m) (hm : m ≤ T.length) (h : y ∈ lst T k) : y ∈ lst T m := by
  induction m with
  | zero => omega
  | succ m ih =>
    by_cases e : k = m + 1
    · subst e; exact h
    · have hk := ih (by omega) (by omega)
      obtain ⟨z, hz⟩ := get_lt (L := T) (k := m) (by omega)
      unfold lst
      rw [getD_of hz]
      split
      · refine drp_mem.2 ⟨hk, fun g => ?_⟩
        exact srt_ne (tok_srt hT) hy hz (by omega) (by rw [eq_iff]; exact g)
      · exact hk
/-- Nothing more can be left out. -/
theorem lst_need {T : List Ent} (hT : TOk T) {e : Ent} (he : e ∈ lst T T.length) : ¬ SmT (drp (lst T T.length) (e.1, e.2.1)) T := by
  obtain ⟨j, hj, ej⟩ := List.getElem_of_mem (lst_sub he)
  have hej : T[j]? = some e := by rw [List.getElem?_eq_getElem hj, ej]
  have heT : e ∈ T := lst_sub he
  have heP := tok_ep hT heT
  have hL := lst_tok hT j
  have hX := lst_tok hT T.length
  have he1 : e ∈ lst T (j + 1) := lst_le (by omega) he
  have heL : e ∈ lst T j := lst_mono he1
  have hno : ¬ SmT (drp (lst T j) (e.1, e.2.1)) (lst T j) := fun g => by
    unfold lst at he1
    rw [getD_of hej, if_pos g] at he1
    exact (drp_mem.1 he1).2 ⟨rfl, rfl⟩
  have hdL := drp_tok hL (e.1, e.2.1)
  obtain ⟨a, ha, hne⟩ : ∃ a, a < 256 ∧ fnd (drp (lst T j) (e.1, e.2.1)) a ≠ fnd (lst T j) a := Classical.byContradiction fun g => hno fun a ha => Classical.byContradiction fun q => g ⟨a, ha, q⟩
  have hc : covE a e := Classical.byContradiction fun g => hne (fnd_ext hdL hL ha fun x cx => by
    rw [drp_mem]
    exact ⟨fun q => q.1, fun q => ⟨q, fun z => g (cov_same (x := x) (by rw [eq_iff]; exact z) cx)⟩⟩)
  obtain ⟨z, hz, cz, hm⟩ := best_ex a (lst T j) ⟨e, heL, hc⟩
  have hze : z = e := Classical.byContradiction fun g => by
    have hzne : ecmp z e ≠ 0 := fun q => g (srt_uniq (tok_srt hL) hz heL q)
    have hzd : z ∈ drp (lst T j) (e.1, e.2.1) := drp_mem.2 ⟨hz, fun q => hzne (by rw [eq_iff]; exact q)⟩
    refine hne ?_
    rw [fnd_best hL ha hz cz hm, fnd_best hdL ha hzd cz fun y hy cy => hm y (drp_mem.1 hy).1 cy]
  subst hze
  have key : fnd (drp (lst T T.length) (z.1, z.2.1)) a = fnd (drp (lst T j) (z.1, z.2.1)) a := fnd_ext (drp_tok hX _) hdL ha fun x cx => by
    rw [drp_mem, drp_mem]
    refine ⟨fun q => ⟨lst_le (by omega) q.1, q.2⟩, fun q => ⟨?_, q.2⟩⟩
    have hxT := lst_sub q.1
    have hxP := tok_ep hT hxT
    have hxz : ecmp x z ≠ 0 := fun g => q.2 (by rw [eq_iff] at g; exact g)
    have hle := hm x q.1 cx
    have hlt : x.2.1 < z.2.1 := Int.lt_iff_le_and_ne.2 ⟨hle, fun g => by
      have e1 := (cov_eid ha hxP).1 cx
      have e2 := (cov_eid ha heP).1 cz
      rw [g] at e1
      exact hxz (eid_inj hxP heP (e1.symm.trans e2))⟩
    have hin := (in_iff ha hxP heP cx cz hxz).2 hlt
    have h1 : x.1 ≤ z.1 := hin.2.2.2.1
    have hLt : Lt x z := by rw [lt_iff]; omega
    obtain ⟨i, hi, ei⟩ := List.getElem_of_mem hxT
    have hij : i < j := by
      refine Classical.byContradiction fun g => ?_
      by_cases e1 : i = j
      · subst e1; rw [ej] at ei; subst ei; exact hxz (by rw [eq_iff]; exact ⟨rfl, rfl⟩)
      · have h3 := List.pairwise_iff_getElem.1 (tok_srt hT) j i hj hi (by omega)
        rw [ej, ei] at h3
        rw [lt_iff] at h3 hLt; omega
    exact lst_keep hT (by rw [List.getElem?_eq_getElem hi, ei]) hij (by omega) (Nat.le_refl _) q.1
  intro g
  have g1 : fnd (drp (lst T T.length) (z.1, z.2.1)) a = fnd T a := g a ha
  have g2 : fnd (lst T j) a = fnd T a := lst_same T j a ha
  exact hne (by rw [← key, g1, g2])
theorem lst_fix {X : List Ent} (h : ∀ e ∈ X, ¬ SmT (drp X (e.1, e.2.1)) X) : ∀ m, m ≤ X.length → lst X m = X
  | 0, _ => rfl
  | m + 1, hm => by
    have ih := lst_fix h m (by omega)
    obtain ⟨z, hz⟩ := get_lt (L := X) (k := m) (by omega)
    unfold lst
    rw [getD_of hz, ih, if_neg (h z (List.mem_of_getElem? hz))]
theorem less_less {T : List Ent} (hT : TOk T) : lessT (lst T T.length) = lst T T.length := by
  unfold lessT
  rw [if_pos (lst_tok hT _)]
  refine lst_fix (fun e he g => lst_need hT he fun a ha => (g a ha).trans (lst_same T _ a ha)) _ (Nat.le_refl _)
theorem drawTableLess_any (v0 : Value) (w : World) (h : Given w v0) :
    Calls Try.prog 31 #[v0] w fun e w' => ∃ (v : Value) (T : List Ent), e = .returned v ∧ Tb w' v T ∧ v ≠ .slice none 0 0 ∧ Below w.heap.size w w' := by
  go_enter Try.func31, Try.ntmps31
  go_wp2_with fail
  refine (open_any v0 _ h).mono ?_; rintro e w1 ⟨rfl, hR, hb1⟩
  clear h
  go_wp2_with fail
  refine (l91Table_any _ 0 _ hR (by omega)).mono ?_; rintro e w2 ⟨v, T, rfl, hO, hne, hT, -, hK2⟩
  have HN := Lib.hid hne
  have HV := Lib.hid hO.tb
  have HB := Lib.hid (hb1.trans (hK2.below (B := w.heap.size) (Nat.le_refl _) hb1.size))
  clear hne hO hK2 hR hb1
  go_wp2
  go_ret
  exact ⟨_, T, rfl, HV.out, HN.out, HB.out⟩
end Go.Proofs.Ytbhenfegklgkoaa
