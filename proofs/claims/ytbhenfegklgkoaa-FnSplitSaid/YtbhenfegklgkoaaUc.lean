/- Plain laws of FnFindAll, FnTableHalves, FnSplit. -/
import Derived.Test.YtbhenfegklgkoaaUa
import Derived.Test.YtbhenfegklgkoaaHq
set_option linter.unusedSimpArgs false
set_option linter.unusedVariables false
namespace Go.Proofs.Ytbhenfegklgkoaa
open Go.RowKit

theorem fnd_pos {T : List Ent} (hT : TOk T) {a : Nat} (ha : a < 256) : 0 ≤ fnd T a := by
  by_cases hx : ∃ x ∈ T, covE a x
  · obtain ⟨z, hz, cz, hm⟩ := best_ex a T hx
    rw [fnd_best hT ha hz cz hm]
    have := (tok_ep hT hz).2.1; omega
  · rw [fnd_none hT ha fun x h1 h2 => hx ⟨x, h1, h2⟩]; omega
theorem ins_dr {T : List Ent} (h : Srt T) (e : Ent) : ins e (drp T (e.1, e.2.1)) = ins e T := by
  refine srt_ext (ins_srt (drp_srt h _)) (ins_srt h) fun x => ?_
  rw [ins_mem (drp_srt h _), ins_mem h, drp_mem]
  simp only [ne_eq, eq_iff]
  constructor
  · rintro (h | ⟨⟨h1, h2⟩, h3⟩)
    · exact Or.inl h
    · exact Or.inr ⟨h1, h3⟩
  · rintro (h | ⟨h1, h3⟩)
    · exact Or.inl h
    · exact Or.inr ⟨⟨h1, h3⟩, h3⟩
theorem ep_0 : EP (0, 0, 9) := by decide
theorem has_0 {a : Nat} (ha : a < 256) : RHas 0 0 (a : Int) := by
  refine ⟨by decide, ⟨by omega, by omega⟩, by omega, ?_⟩
  have : sz 0 = 256 := by decide
  omega
theorem fnd_all {T : List Ent} (hT : TOk T) (hl : (ins (0, 0, 9) T).length ≤ 12) {a : Nat} (ha : a < 256) :
    fnd (ins (0, 0, 9) T) a = if fnd (drp T (0, 0)) a = 0 then 9 else fnd (drp T (0, 0)) a := by
  have hD := drp_tok hT (0, 0)
  have e := ins_dr (tok_srt hT) (0, 0, 9)
  rw [← e] at hl ⊢
  by_cases hx : ∃ x ∈ drp T (0, 0), covE a x
  · obtain ⟨z, hz, cz, hm⟩ := best_ex a _ hx
    have hf := fnd_best hD ha hz cz hm
    have hzp := tok_ep hD hz
    have h1 : 1 ≤ z.2.2 := hzp.2.1
    rw [if_neg (by omega)]
    refine fnd_no hD ep_0 hl ha fun g => g.2 ?_
    have hne := (drp_mem.1 hz).2
    refine ⟨z, hz, hne, ?_, (has_cov ha hzp).2 cz⟩
    have hb0 : 0 < z.2.1 := by
      obtain ⟨⟨b0, b8, f0, f1, fm⟩, _⟩ := id hzp
      by_cases e0 : z.2.1 = 0
      · rw [e0, show sz 0 = 256 by decide] at fm
        exact absurd ⟨by dsimp only; omega, e0⟩ hne
      · omega
    exact (in_iff ha ep_0 hzp ((has_cov ha ep_0).1 (has_0 ha)) cz (fun q => hne (by rw [eq_iff] at q; exact ⟨q.1.symm, q.2.symm⟩))).2 hb0
  · rw [if_pos (fnd_none hD ha fun x h1 h2 => hx ⟨x, h1, h2⟩)]
    exact fnd_yes hD ep_0 hl ha (has_0 ha) fun ⟨x, h1, _, _, h4⟩ => hx ⟨x, h1, (has_cov ha (tok_ep hD h1)).1 h4⟩

theorem cov_half {f b : Int} (h : Hlf f b) (x : Int) : Cov f b x ↔ Cov (hF f b false) (hB f b) x ∨ Cov (hF f b true) (hB f b) x := by
  obtain ⟨e1, e2, e3⟩ := hF_of h
  have hs := sz_half h.1.1 (by have := h.1.2.1; have := h.2; omega)
  have hp := sz_pos (b + 1)
  rw [e1, e2, e3]; unfold Cov; omega
theorem cov_not {f b : Int} (h : Hlf f b) (x : Int) : ¬ (Cov (hF f b false) (hB f b) x ∧ Cov (hF f b true) (hB f b) x) := by
  obtain ⟨e1, e2, e3⟩ := hF_of h
  have hp := sz_pos (b + 1)
  rw [e1, e2, e3]; unfold Cov; omega
/-- What is covered by smaller ones is not asked. -/
theorem fnd_drop {T : List Ent} (hT : TOk T) {f b : Int} {a : Nat} (ha : a < 256) (h : Cov f b (a : Int) → ∃ x ∈ T, covE a x ∧ b < x.2.1) : fnd (drp T (f, b)) a = fnd T a := by
  have hD := drp_tok hT (f, b)
  by_cases hx : ∃ x ∈ T, covE a x
  · obtain ⟨z, hz, cz, hm⟩ := best_ex a T hx
    have hk : ¬ (z.1 = f ∧ z.2.1 = b) := fun ⟨e1, e2⟩ => by
      obtain ⟨x, h1, h2, h3⟩ := h (by unfold covE at cz; rwa [e1, e2] at cz)
      have := hm x h1 h2; omega
    rw [fnd_best hT ha hz cz hm]
    exact fnd_best hD ha (drp_mem.2 ⟨hz, hk⟩) cz fun y hy cy => hm y (drp_mem.1 hy).1 cy
  · rw [fnd_none hT ha fun x h1 h2 => hx ⟨x, h1, h2⟩]
    exact fnd_none hD ha fun x h1 h2 => hx ⟨x, (drp_mem.1 h1).1, h2⟩
theorem halves_drop {X : List Ent} {f b g p q : Int} (hX : TOk X) (he : (f, b, g) ∈ X) (hh : Hlf f b) (hA : EP (hF f b false, hB f b, p)) (hB' : EP (hF f b true, hB f b, q))
    (l1 : (ins (hF f b false, hB f b, p) X).length ≤ 12) (l2 : (ins (hF f b true, hB f b, q) (ins (hF f b false, hB f b, p) X)).length ≤ 12) :
    tdrp (ins (hF f b true, hB f b, q) (ins (hF f b false, hB f b, p) X)) (f, b) = (drp (ins (hF f b true, hB f b, q) (ins (hF f b false, hB f b, p) X)) (f, b), true) ∧
    TSame (drp (ins (hF f b true, hB f b, q) (ins (hF f b false, hB f b, p) X)) (f, b)) (ins (hF f b true, hB f b, q) (ins (hF f b false, hB f b, p) X)) := by
  have hY := ins_tok hX hA l1
  have hZ := ins_tok hY hB' l2
  obtain ⟨e1, e2, e3⟩ := hF_of hh
  have hp := sz_pos (b + 1)
  have nA : ecmp (hF f b false, hB f b, p) (hF f b true, hB f b, q) ≠ 0 := by rw [Ne, eq_iff]; dsimp only; omega
  have mA : (hF f b false, hB f b, p) ∈ ins (hF f b true, hB f b, q) (ins (hF f b false, hB f b, p) X) := (ins_mem (tok_srt hY)).2 (Or.inr ⟨(ins_mem (tok_srt hX)).2 (Or.inl rfl), nA⟩)
  have mB : (hF f b true, hB f b, q) ∈ ins (hF f b true, hB f b, q) (ins (hF f b false, hB f b, p) X) := (ins_mem (tok_srt hY)).2 (Or.inl rfl)
  have mE : (f, b, g) ∈ ins (hF f b true, hB f b, q) (ins (hF f b false, hB f b, p) X) := (ins_mem (tok_srt hY)).2 (Or.inr ⟨(ins_mem (tok_srt hX)).2 (Or.inr ⟨he, by rw [Ne, eq_iff]; dsimp only; omega⟩), by rw [Ne, eq_iff]; dsimp only; omega⟩)
  generalize hZe : ins (hF f b true, hB f b, q) (ins (hF f b false, hB f b, p) X) = Z at *
  obtain ⟨k, hk, ek⟩ := List.getElem_of_mem mE
  have hl := drp_less (tok_srt hZ) (x := (f, b, g)) (k := k) (by rw [List.getElem?_eq_getElem hk, ek])
  dsimp only at hl
  refine ⟨by rw [tdrp_yes hZ hh.1, decide_eq_true (by omega)], drp_tok hZ _, hZ, fun a ha => fnd_drop hZ ha fun c => ?_⟩
  rcases (cov_half hh a).1 c with c | c
  · exact ⟨_, mA, c, by dsimp only; omega⟩
  · exact ⟨_, mB, c, by dsimp only; omega⟩
/-- Parted in two halves. -/
theorem split_same {T : List Ent} {f b g : Int} (hT : TOk T) (he : (f, b, g) ∈ T) (hh : Hlf f b) (hA : EP (hF f b false, hB f b, g)) (hB' : EP (hF f b true, hB f b, g))
    (hno : ∀ y ∈ T, ¬ (y.1 = hF f b false ∧ y.2.1 = hB f b) ∧ ¬ (y.1 = hF f b true ∧ y.2.1 = hB f b))
    (l1 : (ins (hF f b false, hB f b, g) (drp T (f, b))).length ≤ 12) (l2 : (ins (hF f b true, hB f b, g) (ins (hF f b false, hB f b, g) (drp T (f, b)))).length ≤ 12) :
    TSame (ins (hF f b true, hB f b, g) (ins (hF f b false, hB f b, g) (drp T (f, b)))) T := by
  have hD := drp_tok hT (f, b)
  have hY := ins_tok hD hA l1
  have hZ := ins_tok hY hB' l2
  obtain ⟨e1, e2, e3⟩ := hF_of hh
  have hp := sz_pos (b + 1)
  have nA : ecmp (hF f b false, hB f b, g) (hF f b true, hB f b, g) ≠ 0 := by rw [Ne, eq_iff]; dsimp only; omega
  have mZ : ∀ y, y ∈ ins (hF f b true, hB f b, g) (ins (hF f b false, hB f b, g) (drp T (f, b))) ↔ y = (hF f b true, hB f b, g) ∨ y = (hF f b false, hB f b, g) ∨ y ∈ T ∧ ¬ (y.1 = f ∧ y.2.1 = b) := fun y => by
    rw [ins_mem (tok_srt hY), ins_mem (tok_srt hD), drp_mem]
    constructor
    · rintro (h | ⟨h | ⟨h, _⟩, _⟩)
      · exact Or.inl h
      · exact Or.inr (Or.inl h)
      · exact Or.inr (Or.inr h)
    · rintro (h | h | h)
      · exact Or.inl h
      · subst h; exact Or.inr ⟨Or.inl rfl, nA⟩
      · exact Or.inr ⟨Or.inr ⟨h, by rw [Ne, eq_iff]; exact (hno y h.1).1⟩, by rw [Ne, eq_iff]; exact (hno y h.1).2⟩
  generalize hZe : ins (hF f b true, hB f b, g) (ins (hF f b false, hB f b, g) (drp T (f, b))) = Z at *
  refine ⟨hZ, hT, fun a ha => ?_⟩
  by_cases hc : Cov f b (a : Int)
  · obtain ⟨z, hz, cz, hm⟩ := best_ex a T ⟨_, he, hc⟩
    show fnd Z a = fnd T a
    rw [fnd_best hT ha hz cz hm]
    have hbz := hm _ he hc
    dsimp only at hbz
    obtain ⟨h, hhZ, hhc, hhb, hhg, hhk, hAB⟩ : ∃ h ∈ Z, covE a h ∧ h.2.1 = b + 1 ∧ h.2.2 = g ∧ EP h ∧ (h = (hF f b true, hB f b, g) ∨ h = (hF f b false, hB f b, g)) := by
      rcases (cov_half hh a).1 hc with c | c
      · exact ⟨_, (mZ _).2 (Or.inr (Or.inl rfl)), c, by dsimp only; omega, rfl, hA, Or.inr rfl⟩
      · exact ⟨_, (mZ _).2 (Or.inl rfl), c, by dsimp only; omega, rfl, hB', Or.inl rfl⟩
    by_cases hzk : z.1 = f ∧ z.2.1 = b
    · have hze : z = (f, b, g) := srt_uniq (tok_srt hT) hz he (by rw [eq_iff]; exact hzk)
      subst hze
      rw [show ((f, b, g) : Ent).2.2 = h.2.2 from hhg.symm]
      refine fnd_best hZ ha hhZ hhc fun y hy cy => ?_
      rcases (mZ y).1 hy with rfl | rfl | ⟨hy, _⟩
      · dsimp only; omega
      · dsimp only; omega
      · have := hm y hy cy; dsimp only at this; omega
    · have hzZ : z ∈ Z := (mZ z).2 (Or.inr (Or.inr ⟨hz, hzk⟩))
      have hne : eid z ≠ eid (f, b, g) := fun q => hzk (by have := eid_inj (tok_ep hT hz) (tok_ep hT he) q; rwa [eq_iff] at this)
      have ez := (cov_eid ha (tok_ep hT hz)).1 cz
      have ee := (cov_eid ha (tok_ep hT he)).1 hc
      have hb1 : z.2.1 ≠ b := fun q => hne (by rw [← ez, ← ee, q])
      have hb2 : z.2.1 ≠ b + 1 := fun q => by
        have eh := (cov_eid ha hhk).1 hhc
        have hk := eid_inj (tok_ep hT hz) hhk (by rw [← ez, ← eh, q, hhb])
        rw [eq_iff] at hk
        rcases hAB with rfl | rfl
        · exact (hno z hz).2 hk
        · exact (hno z hz).1 hk
      refine fnd_best hZ ha hzZ cz fun y hy cy => ?_
      rcases (mZ y).1 hy with rfl | rfl | ⟨hy, _⟩
      · dsimp only; omega
      · dsimp only; omega
      · exact hm y hy cy
  · refine fnd_ext hZ hT ha fun x cx => ?_
    rw [mZ]
    have n1 : x ≠ (hF f b true, hB f b, g) := fun q => hc ((cov_half hh a).2 (Or.inr (by subst q; exact cx)))
    have n2 : x ≠ (hF f b false, hB f b, g) := fun q => hc ((cov_half hh a).2 (Or.inl (by subst q; exact cx)))
    have n3 : ¬ (x.1 = f ∧ x.2.1 = b) := fun ⟨q1, q2⟩ => hc (by unfold covE at cx; rwa [q1, q2] at cx)
    simp [n1, n2, n3]
end Go.Proofs.Ytbhenfegklgkoaa
