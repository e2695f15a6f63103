/- What a map of relations holds. -/
import Derived.Test.YtfckmgeakdbdfaaMe
set_option linter.unusedSimpArgs false
set_option linter.unusedVariables false
namespace Go.Proofs.Ytfckmgeakdbdfaa
open Go.RowKit Go.Maps Go.WideMaps

noncomputable abbrev PE : Value → Option (DataW Unit × List MemPlace) := plainElem (H := Unit) Try.prog 3
noncomputable abbrev z0 : DataW Unit := .lit (.int .i64 0)
theorem wf_sm {n : Int} (h : -1000000 ≤ n) (h' : n ≤ 1000000) : (Lit.int .i64 n).wf = true := WalkArith.wf_i64 (by omega)
theorem kl_inj {a c a' c' : Int} (ha : (Lit.int .i64 a).wf = true) (hc : (Lit.int .i64 c).wf = true) (ha' : (Lit.int .i64 a').wf = true) (hc' : (Lit.int .i64 c').wf = true) (h : kl a c = kl a' c') : a = a' ∧ c = c' := by
  have h1 := km_key a c ha hc
  have h2 := km_key a' c' ha' hc'
  rw [h] at h1
  have := km_keyed.inj h1 h2
  injection this with e
  injection e with e
  injection e with e1 e2
  injection e2 with e2 e3
  injection e1 with _ e1
  injection e2 with _ e2
  exact ⟨e1, e2⟩
/-- D holds just the numbers of g that are not nought, each at its place and one. -/
def KD (D : DataW Unit) (g : Nat → Nat → Int) : Prop :=
  (∀ i k : Nat, i < 5 → k < 5 → g i k ≠ 0 → ∀ z, D.atKey (kl ((i : Int) + 1) ((k : Int) + 1)) z = .lit (.int .i64 (g i k))) ∧ (∀ l, Maps.has D l = true → ∃ i k : Nat, i < 5 ∧ k < 5 ∧ l = kl ((i : Int) + 1) ((k : Int) + 1) ∧ g i k ≠ 0)
theorem KD.nil : KD (.map []) (fun _ _ => 0) := ⟨fun i k _ _ h => (h rfl).elim, fun l h => by simp [Maps.has_eq] at h⟩
def kset (g : Nat → Nat → Int) (i k : Nat) (r : Int) : Nat → Nat → Int := fun a c => if a = i ∧ c = k then r else g a c
theorem KD.put {D : DataW Unit} {g : Nat → Nat → Int} (h : KD D g) (hD : Maps.IsMap D) {i k : Nat} (hi : i < 5) (hk : k < 5) {r : Int} (hr : r ≠ 0) : KD (D.put (kl ((i : Int) + 1) ((k : Int) + 1)) (.lit (.int .i64 r))) (kset g i k r) := by
  have hkey : WideAt.IsKeyLit (kl ((i : Int) + 1) ((k : Int) + 1)) := km_keyed.key (km_key _ _ (wf_sm (by omega) (by omega)) (wf_sm (by omega) (by omega)))
  refine ⟨fun a c ha hc hg z => ?_, fun l hl => ?_⟩
  · by_cases e : a = i ∧ c = k
    · obtain ⟨rfl, rfl⟩ := e
      rw [Maps.atKey_put_same hD hkey]; simp [kset]
    · have hne : kl ((a : Int) + 1) ((c : Int) + 1) ≠ kl ((i : Int) + 1) ((k : Int) + 1) := fun e' => by
        have := kl_inj (wf_sm (by omega) (by omega)) (wf_sm (by omega) (by omega)) (wf_sm (by omega) (by omega)) (wf_sm (by omega) (by omega)) e'
        exact e ⟨by omega, by omega⟩
      simp only [kset, if_neg e] at hg ⊢
      rw [Maps.atKey_put_other hne]; exact h.1 a c ha hc hg z
  · by_cases e : l = kl ((i : Int) + 1) ((k : Int) + 1)
    · exact ⟨i, k, hi, hk, e, by simpa [kset] using hr⟩
    · rw [Maps.has_put_other e] at hl
      obtain ⟨a, c, ha, hc, rfl, hg⟩ := h.2 l hl
      refine ⟨a, c, ha, hc, rfl, ?_⟩
      have : ¬ (a = i ∧ c = k) := fun e' => e (by rw [e'.1, e'.2])
      simpa [kset, this] using hg
/-- What is read at two numbers. -/
def gi (g : Nat → Nat → Int) (a c : Int) : Int := if 1 ≤ a ∧ a ≤ 5 ∧ 1 ≤ c ∧ c ≤ 5 then g (a - 1).toNat (c - 1).toNat else 0
theorem KD.look {D : DataW Unit} {g : Nat → Nat → Int} (h : KD D g) {a c : Int} (ha : -1000000 ≤ a) (ha' : a ≤ 1000000) (hc : -1000000 ≤ c) (hc' : c ≤ 1000000) : D.atKey (kl a c) z0 = .lit (.int .i64 (gi g a c)) := by
  by_cases hh : Maps.has D (kl a c) = true
  · obtain ⟨i, k, hi, hk, e, hg⟩ := h.2 _ hh
    obtain ⟨rfl, rfl⟩ := kl_inj (wf_sm ha ha') (wf_sm hc hc') (wf_sm (by omega) (by omega)) (wf_sm (by omega) (by omega)) e
    rw [h.1 i k hi hk hg]
    unfold gi
    rw [if_pos ⟨by omega, by omega, by omega, by omega⟩, show ((i : Int) + 1 - 1).toNat = i by omega, show ((k : Int) + 1 - 1).toNat = k by omega]
  · have hf : Maps.has D (kl a c) = false := by simpa using hh
    rw [Maps.atKey_of_not_has hf]
    unfold gi
    split
    · rename_i hb
      by_cases hg : g (a - 1).toNat (c - 1).toNat = 0
      · rw [hg]
      · exfalso
        have := h.1 (a - 1).toNat (c - 1).toNat (by omega) (by omega) hg
        rw [show (((a - 1).toNat : Nat) : Int) + 1 = a by omega, show (((c - 1).toNat : Nat) : Int) + 1 = c by omega] at this
        exact hh (Maps.has_true_of_atKey this)
    · rfl
theorem KD.has {D : DataW Unit} {g : Nat → Nat → Int} (h : KD D g) {i k : Nat} (hi : i < 5) (hk : k < 5) (hg : g i k ≠ 0) : Maps.has D (kl ((i : Int) + 1) ((k : Int) + 1)) = true :=
  Maps.has_true_of_atKey (h.1 i k hi hk hg)
theorem km_lit (d : Nat) (c : Value) (L : List Lit) (h : Try.prog.keyLits (d + 1) 3 [c] = some L) : ∃ n, c = .int .i64 n := by
  simp only [Program.keyLits, Try.underlying3] at h
  cases c <;> simp at h
  rename_i q n
  exact ⟨n, by rw [h.1.1]⟩
/-- A key is two numbers. -/
theorem km_inv (v : Value) (l : Lit) (h : keyOf Try.prog 67 v = some l) : ∃ x : Int × Int, v = .agg #[.int .i64 x.1, .int .i64 x.2] := by
  obtain ⟨xs, L, rfl, h1, -⟩ := keyOf_top km_wide h
  obtain ⟨d, hd⟩ := km_size
  have hcc : Try.prog.cellsOf 3 = 1 := by kernel_rfl
  rw [hd] at h1
  obtain ⟨l⟩ := xs
  unfold Program.keyLits at h1
  simp only [Try.underlying67] at h1
  split at h1
  · rename_i hl
    have hl2 := hl.1
    rw [km_cells] at hl2
    match l, hl2 with
    | [c0, c1], _ =>
      cases e0 : Try.prog.keyLits (d + 1) 3 [c0] with
      | none => simp [hcc, List.mapM_cons, e0] at h1
      | some L0 =>
        cases e1 : Try.prog.keyLits (d + 1) 3 [c1] with
        | none => simp [hcc, List.mapM_cons, e0, e1] at h1
        | some L1 =>
          obtain ⟨n0, rfl⟩ := km_lit d c0 L0 e0
          obtain ⟨n1, rfl⟩ := km_lit d c1 L1 e1
          exact ⟨(n0, n1), rfl⟩
  · cases h1
theorem Fb.turn {W w w' : World} {L : List (Nat × List Value)} {g : Nat} (h : Fb W w L) (hg : w.grownBy w' (some g)) (hW : W.heap.size ≤ g) (hL : ∀ p ∈ L, p.1 ≠ g) : Fb W w' L :=
  ⟨⟨hg.os.trans h.kp.os, hg.tape.trans h.kp.tape, hg.output.trans h.kp.output, Nat.le_trans h.kp.size hg.size, fun k hk => (hg.block k (by have := h.kp.size; omega) (by intro e; injection e; omega)).trans (h.kp.block k hk)⟩, fun p hp => by
    obtain ⟨h1, h2, h3⟩ := h.own p hp
    have hne := hL p hp
    have hb : w'.heap[p.1]? = w.heap[p.1]? := hg.block p.1 h3 (by intro e; injection e with e; exact hne e)
    exact ⟨At.move (fun o v hv => (World.cell?_of_block (w := w) (a := ⟨p.1, o, none⟩) hb).trans hv) (fun o v _ => World.frozen?_of_block (w := w) (a := ⟨p.1, o, none⟩) hb) _ _ h1, h2, Nat.lt_of_lt_of_le h3 hg.size⟩⟩
theorem grown_none {w w' : World} (h : w.grownBy w' none) : Below w.heap.size w w' := ⟨h.os, h.tape, h.output, h.size, fun k hk => h.block k hk (by simp)⟩
theorem grown_set (w : World) (a : Addr) (u : Value) : w.grownBy (w.setCell a u) (some a.block) :=
  ⟨rfl, rfl, rfl, by simp [World.setCell], fun k _ hne => Below.heap_setCell _ _ _ _ (fun e => hne (by rw [e]))⟩
theorem KD.run {w : World} {b n : Nat} {D : DataW Unit} {g : Nat → Nat → Int} (hO : w.ownsMap Try.prog 67 PE b n D) (hD : KD D g) {a c : Int} (ha : -1000000 ≤ a) (ha' : a ≤ 1000000) (hc : -1000000 ≤ c) (hc' : c ≤ 1000000) :
    (Instr.lookup 48 (.map (some b)) (.agg #[.int .i64 a, .int .i64 c]) false).run Try.prog w = .ok (.int .i64 (gi g a c)) w := by
  obtain ⟨x, hrun, hat, -⟩ := hO.lookup_int km_keyed Try.underlying48 Try.underlying3 (km_zero w) (km_key a c (wf_sm ha ha') (wf_sm hc hc'))
  rw [hD.look ha ha' hc hc'] at hat
  injection hat with e
  injection e with _ e
  rw [hrun, e]
theorem gi_at (g : Nat → Nat → Int) {i k : Nat} (hi : i < 5) (hk : k < 5) : gi g ((i : Int) + 1) ((k : Int) + 1) = g i k := by
  unfold gi
  rw [if_pos ⟨by omega, by omega, by omega, by omega⟩, show ((i : Int) + 1 - 1).toNat = i by omega, show ((k : Int) + 1 - 1).toNat = k by omega]
/-- What has been stored when row i has come to place k. -/
def gpre (M : List (List Int)) (i k : Nat) : Nat → Nat → Int := fun a c => if (a < i ∨ (a = i ∧ c < k)) ∧ c < M.length then mget M a c else 0
theorem gpre_0 (M : List (List Int)) : gpre M 0 0 = fun _ _ => 0 := by
  funext a c; unfold gpre; rw [if_neg (by omega)]
theorem gpre_row (M : List (List Int)) (i : Nat) : gpre M i M.length = gpre M (i + 1) 0 := by
  funext a c; unfold gpre
  by_cases h : c < M.length
  · by_cases h2 : a ≤ i
    · rw [if_pos (by omega), if_pos (by omega)]
    · rw [if_neg (by omega), if_neg (by omega)]
  · rw [if_neg (by omega), if_neg (by omega)]
theorem gpre_set (M : List (List Int)) (i k : Nat) (hk : k < M.length) : kset (gpre M i k) i k (mget M i k) = gpre M i (k + 1) := by
  funext a c; unfold kset gpre
  by_cases h : a = i ∧ c = k
  · obtain ⟨rfl, rfl⟩ := h
    rw [if_pos ⟨rfl, rfl⟩, if_pos (by omega)]
  · rw [if_neg h]
    by_cases h2 : (a < i ∨ (a = i ∧ c < k)) ∧ c < M.length
    · rw [if_pos h2, if_pos (by omega)]
    · rw [if_neg h2, if_neg (by omega)]
theorem gpre_skip (M : List (List Int)) (i k : Nat) (hk : k < M.length) (h0 : mget M i k = 0) : gpre M i k = gpre M i (k + 1) := by
  rw [← gpre_set M i k hk, h0]
  funext a c; unfold kset
  split
  · rename_i h; rw [h.1, h.2]; unfold gpre; rw [if_neg (by omega)]
  · rfl
/-- The whole: what is stored when all rows have come. -/
def gall (M : List (List Int)) : Nat → Nat → Int := gpre M M.length 0
theorem gall_eq (M : List (List Int)) {a c : Nat} (ha : a < M.length) (hc : c < M.length) : gall M a c = mget M a c := by
  unfold gall gpre; rw [if_pos (by omega)]
theorem gall_out (M : List (List Int)) {a c : Nat} (h : ¬ (a < M.length ∧ c < M.length)) : gall M a c = 0 := by
  unfold gall gpre; rw [if_neg (by omega)]
theorem relsP_iff {M : List (List Int)} (h1 : 1 ≤ M.length) (h5 : M.length ≤ 5) (hrow : ∀ j, j < M.length → (M.getD j []).length = M.length ∧ ∀ k, k < M.length → Bts (mget M j k) 0 3) :
    RelsP M ↔ ∀ i k, i < 5 → k < 5 → gall M i k ≠ 0 → i ≠ k ∧ gall M k i = bk (gall M i k) := by
  constructor
  · intro h i k hi hk hg
    by_cases hb : i < M.length ∧ k < M.length
    · rw [gall_eq M hb.1 hb.2] at hg ⊢
      rw [gall_eq M hb.2 hb.1]
      obtain ⟨_, _, e1, e2⟩ := (h.1 i hb.1).2 k hb.2
      exact ⟨fun e => hg (e2 e), e1⟩
    · exact (hg (gall_out M hb)).elim
  · intro h
    refine ⟨fun i hi => ⟨(hrow i hi).1, fun k hk => ⟨(hrow k hk).1, (hrow i hi).2 k hk, ?_, ?_⟩⟩, h1, h5⟩
    · by_cases e : mget M i k = 0
      · rw [e, show bk 0 = 0 from rfl]
        by_cases e' : mget M k i = 0
        · exact e'
        · exfalso
          have := (h k i (by omega) (by omega) (by rw [gall_eq M hk hi]; exact e')).2
          rw [gall_eq M hi hk, gall_eq M hk hi, e] at this
          have hb := (hrow k hk).2 i hi
          unfold Bts at hb
          unfold bk at this
          split at this
          · omega
          · split at this <;> omega
      · have := (h i k (by omega) (by omega) (by rw [gall_eq M hi hk]; exact e)).2
        rw [gall_eq M hi hk, gall_eq M hk hi] at this
        exact this
    · intro e
      by_cases e' : mget M i k = 0
      · exact e'
      · exact ((h i k (by omega) (by omega) (by rw [gall_eq M hi hk]; exact e')).1 e).elim
end Go.Proofs.Ytfckmgeakdbdfaa
