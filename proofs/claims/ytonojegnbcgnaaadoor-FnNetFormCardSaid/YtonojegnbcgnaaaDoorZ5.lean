/- A map keyed by two numbers. What a map of relations holds. readRels: the walk. -/
import Derived.Test.YtonojegnbcgnaaaDoorZ4
import Derived.Maps.OwnOps
import Derived.Maps.Views
import Derived.Maps.RangeWalk
import Derived.DeepKeys4
import Derived.WideKeyArgs2
set_option linter.unusedSimpArgs false
set_option linter.unusedVariables false
namespace Go.Proofs.YtonojegnbcgnaaaDoor
open Go.RowKit Go.Maps Go.WideMaps

theorem km_laid : laidOutB Tryd.prog = true := by kernel_rfl
theorem km_row : (127 : TypeId) < Tryd.prog.types.size := of_decide_eq_true (by kernel_rfl)
theorem km_wide : (match Tryd.prog.underlying 127 with | some (.array _ _) | some (.struct _) => true | _ => false) = true := by kernel_rfl
set_option maxRecDepth 100000 in
theorem km_law : KeyLaw Tryd.prog 127 := deep_law_laid km_laid (m := 2) (by omega) km_row (by kernel_rfl) km_wide
theorem km_keyed : Keyed Tryd.prog 127 := Keyed.of_law km_law
theorem km_cells : Tryd.prog.cellsOf 127 = 2 := by kernel_rfl
theorem km_type : Tryd.prog.keyType 127 = true := by kernel_rfl
theorem km_zero (w : World) : (zeroValue 3).run Tryd.prog w = .ok (.int .i64 0) w := by kernel_rfl
def kl (a c : Int) : Lit := .string (keyBytes [.int .i64 a, .int .i64 c])
theorem km_size : ∃ d, Tryd.prog.types.size + 1 = d + 2 := by
  have h : (127 : Nat) < Tryd.prog.types.size := km_row
  generalize Tryd.prog.types.size = s at h
  exact ⟨s - 1, by omega⟩
theorem km_key (a c : Int) (ha : (Lit.int .i64 a).wf = true) (hc : (Lit.int .i64 c).wf = true) : keyOf Tryd.prog 127 (.agg #[.int .i64 a, .int .i64 c]) = some (kl a c) := by
  have hf : (Value.agg #[.int .i64 a, .int .i64 c]).formed Tryd.prog 127 = true := by
    simp [Value.formed, Tryd.underlying127, km_cells]
  obtain ⟨d, hd⟩ := km_size
  have hcc : Tryd.prog.cellsOf 3 = 1 := by kernel_rfl
  unfold keyOf
  simp only [Tryd.underlying127, km_type, hf, hd]
  simp [Program.keyLits, Tryd.underlying127, Tryd.underlying3, km_cells, hcc, ha, hc, Value.cells, kl, List.mapM_cons]
end Go.Proofs.YtonojegnbcgnaaaDoor
set_option maxRecDepth 100000
set_option linter.unusedSimpArgs false
set_option linter.unusedVariables false
namespace Go.Proofs.YtonojegnbcgnaaaDoor
open Go.RowKit Go.Maps Go.WideMaps

noncomputable abbrev PE : Value → Option (DataW Unit × List MemPlace) := plainElem (H := Unit) Tryd.prog 3
noncomputable abbrev z0 : DataW Unit := .lit (.int .i64 0)
theorem wf_sm {n : Int} (h : -1000000 ≤ n) (h' : n ≤ 1000000) : (Lit.int .i64 n).wf = true := WalkArith.wf_i64 (by omega)
theorem kl_inj {a c a' c' : Int} (ha : (Lit.int .i64 a).wf = true) (hc : (Lit.int .i64 c).wf = true) (ha' : (Lit.int .i64 a').wf = true) (hc' : (Lit.int .i64 c').wf = true) (h : kl a c = kl a' c') : a = a' ∧ c = c' := by
  have h1 := km_key a c ha hc
  have h2 := km_key a' c' ha' hc'
  rw [h] at h1
  have := km_keyed.inj h1 h2
  injection this with e
  injection e with e
  injection e with e1 e2
  injection e2 with e2 e3
  injection e1 with _ e1
  injection e2 with _ e2
  exact ⟨e1, e2⟩
/-- D holds just the numbers of g that are not nought, each at its place and one. -/
def KD (D : DataW Unit) (g : Nat → Nat → Int) : Prop :=
  (∀ i k : Nat, i < 5 → k < 5 → g i k ≠ 0 → ∀ z, D.atKey (kl ((i : Int) + 1) ((k : Int) + 1)) z = .lit (.int .i64 (g i k))) ∧ (∀ l, Maps.has D l = true → ∃ i k : Nat, i < 5 ∧ k < 5 ∧ l = kl ((i : Int) + 1) ((k : Int) + 1) ∧ g i k ≠ 0)
theorem KD.nil : KD (.map []) (fun _ _ => 0) := ⟨fun i k _ _ h => (h rfl).elim, fun l h => by simp [Maps.has_eq] at h⟩
def kset (g : Nat → Nat → Int) (i k : Nat) (r : Int) : Nat → Nat → Int := fun a c => if a = i ∧ c = k then r else g a c
theorem KD.put {D : DataW Unit} {g : Nat → Nat → Int} (h : KD D g) (hD : Maps.IsMap D) {i k : Nat} (hi : i < 5) (hk : k < 5) {r : Int} (hr : r ≠ 0) : KD (D.put (kl ((i : Int) + 1) ((k : Int) + 1)) (.lit (.int .i64 r))) (kset g i k r) := by
  have hkey : WideAt.IsKeyLit (kl ((i : Int) + 1) ((k : Int) + 1)) := km_keyed.key (km_key _ _ (wf_sm (by omega) (by omega)) (wf_sm (by omega) (by omega)))
  refine ⟨fun a c ha hc hg z => ?_, fun l hl => ?_⟩
  · by_cases e : a = i ∧ c = k
    · obtain ⟨rfl, rfl⟩ := e
      rw [Maps.atKey_put_same hD hkey]; simp [kset]
    · have hne : kl ((a : Int) + 1) ((c : Int) + 1) ≠ kl ((i : Int) + 1) ((k : Int) + 1) := fun e' => by
        have := kl_inj (wf_sm (by omega) (by omega)) (wf_sm (by omega) (by omega)) (wf_sm (by omega) (by omega)) (wf_sm (by omega) (by omega)) e'
        exact e ⟨by omega, by omega⟩
      simp only [kset, if_neg e] at hg ⊢
      rw [Maps.atKey_put_other hne]; exact h.1 a c ha hc hg z
  · by_cases e : l = kl ((i : Int) + 1) ((k : Int) + 1)
    · exact ⟨i, k, hi, hk, e, by simpa [kset] using hr⟩
    · rw [Maps.has_put_other e] at hl
      obtain ⟨a, c, ha, hc, rfl, hg⟩ := h.2 l hl
      refine ⟨a, c, ha, hc, rfl, ?_⟩
      have : ¬ (a = i ∧ c = k) := fun e' => e (by rw [e'.1, e'.2])
      simpa [kset, this] using hg
/-- What is read at two numbers. -/
def gi (g : Nat → Nat → Int) (a c : Int) : Int := if 1 ≤ a ∧ a ≤ 5 ∧ 1 ≤ c ∧ c ≤ 5 then g (a - 1).toNat (c - 1).toNat else 0
theorem KD.look {D : DataW Unit} {g : Nat → Nat → Int} (h : KD D g) {a c : Int} (ha : -1000000 ≤ a) (ha' : a ≤ 1000000) (hc : -1000000 ≤ c) (hc' : c ≤ 1000000) : D.atKey (kl a c) z0 = .lit (.int .i64 (gi g a c)) := by
  by_cases hh : Maps.has D (kl a c) = true
  · obtain ⟨i, k, hi, hk, e, hg⟩ := h.2 _ hh
    obtain ⟨rfl, rfl⟩ := kl_inj (wf_sm ha ha') (wf_sm hc hc') (wf_sm (by omega) (by omega)) (wf_sm (by omega) (by omega)) e
    rw [h.1 i k hi hk hg]
    unfold gi
    rw [if_pos ⟨by omega, by omega, by omega, by omega⟩, show ((i : Int) + 1 - 1).toNat = i by omega, show ((k : Int) + 1 - 1).toNat = k by omega]
  · have hf : Maps.has D (kl a c) = false := by simpa using hh
    rw [Maps.atKey_of_not_has hf]
    unfold gi
    split
    · rename_i hb
      by_cases hg : g (a - 1).toNat (c - 1).toNat = 0
      · rw [hg]
      · exfalso
        have := h.1 (a - 1).toNat (c - 1).toNat (by omega) (by omega) hg
        rw [show (((a - 1).toNat : Nat) : Int) + 1 = a by omega, show (((c - 1).toNat : Nat) : Int) + 1 = c by omega] at this
        exact hh (Maps.has_true_of_atKey this)
    · rfl
theorem KD.has {D : DataW Unit} {g : Nat → Nat → Int} (h : KD D g) {i k : Nat} (hi : i < 5) (hk : k < 5) (hg : g i k ≠ 0) : Maps.has D (kl ((i : Int) + 1) ((k : Int) + 1)) = true :=
  Maps.has_true_of_atKey (h.1 i k hi hk hg)
theorem km_lit (d : Nat) (c : Value) (L : List Lit) (h : Tryd.prog.keyLits (d + 1) 3 [c] = some L) : ∃ n, c = .int .i64 n := by
  simp only [Program.keyLits, Tryd.underlying3] at h
  cases c <;> simp at h
  rename_i q n
  exact ⟨n, by rw [h.1.1]⟩
/-- A key is two numbers. -/
theorem km_inv (v : Value) (l : Lit) (h : keyOf Tryd.prog 127 v = some l) : ∃ x : Int × Int, v = .agg #[.int .i64 x.1, .int .i64 x.2] := by
  obtain ⟨xs, L, rfl, h1, -⟩ := keyOf_top km_wide h
  obtain ⟨d, hd⟩ := km_size
  have hcc : Tryd.prog.cellsOf 3 = 1 := by kernel_rfl
  rw [hd] at h1
  obtain ⟨l⟩ := xs
  unfold Program.keyLits at h1
  simp only [Tryd.underlying127] at h1
  split at h1
  · rename_i hl
    have hl2 := hl.1
    rw [km_cells] at hl2
    match l, hl2 with
    | [c0, c1], _ =>
      cases e0 : Tryd.prog.keyLits (d + 1) 3 [c0] with
      | none => simp [hcc, List.mapM_cons, e0] at h1
      | some L0 =>
        cases e1 : Tryd.prog.keyLits (d + 1) 3 [c1] with
        | none => simp [hcc, List.mapM_cons, e0, e1] at h1
        | some L1 =>
          obtain ⟨n0, rfl⟩ := km_lit d c0 L0 e0
          obtain ⟨n1, rfl⟩ := km_lit d c1 L1 e1
          exact ⟨(n0, n1), rfl⟩
  · cases h1
theorem Fb.turn {W w w' : World} {L : List (Nat × List Value)} {g : Nat} (h : Fb W w L) (hg : w.grownBy w' (some g)) (hW : W.heap.size ≤ g) (hL : ∀ p ∈ L, p.1 ≠ g) : Fb W w' L :=
  ⟨⟨hg.os.trans h.kp.os, hg.tape.trans h.kp.tape, hg.output.trans h.kp.output, Nat.le_trans h.kp.size hg.size, fun k hk => (hg.block k (by have := h.kp.size; omega) (by intro e; injection e; omega)).trans (h.kp.block k hk)⟩, fun p hp => by
    obtain ⟨h1, h2, h3⟩ := h.own p hp
    have hne := hL p hp
    have hb : w'.heap[p.1]? = w.heap[p.1]? := hg.block p.1 h3 (by intro e; injection e with e; exact hne e)
    exact ⟨At.move (fun o v hv => (World.cell?_of_block (w := w) (a := ⟨p.1, o, none⟩) hb).trans hv) (fun o v _ => World.frozen?_of_block (w := w) (a := ⟨p.1, o, none⟩) hb) _ _ h1, h2, Nat.lt_of_lt_of_le h3 hg.size⟩⟩
theorem grown_none {w w' : World} (h : w.grownBy w' none) : Below w.heap.size w w' := ⟨h.os, h.tape, h.output, h.size, fun k hk => h.block k hk (by simp)⟩
theorem grown_set (w : World) (a : Addr) (u : Value) : w.grownBy (w.setCell a u) (some a.block) :=
  ⟨rfl, rfl, rfl, by simp [World.setCell], fun k _ hne => Below.heap_setCell _ _ _ _ (fun e => hne (by rw [e]))⟩
theorem KD.run {w : World} {b n : Nat} {D : DataW Unit} {g : Nat → Nat → Int} (hO : w.ownsMap Tryd.prog 127 PE b n D) (hD : KD D g) {a c : Int} (ha : -1000000 ≤ a) (ha' : a ≤ 1000000) (hc : -1000000 ≤ c) (hc' : c ≤ 1000000) :
    (Instr.lookup 85 (.map (some b)) (.agg #[.int .i64 a, .int .i64 c]) false).run Tryd.prog w = .ok (.int .i64 (gi g a c)) w := by
  obtain ⟨x, hrun, hat, -⟩ := hO.lookup_int km_keyed Tryd.underlying85 Tryd.underlying3 (km_zero w) (km_key a c (wf_sm ha ha') (wf_sm hc hc'))
  rw [hD.look ha ha' hc hc'] at hat
  injection hat with e
  injection e with _ e
  rw [hrun, e]
theorem gi_at (g : Nat → Nat → Int) {i k : Nat} (hi : i < 5) (hk : k < 5) : gi g ((i : Int) + 1) ((k : Int) + 1) = g i k := by
  unfold gi
  rw [if_pos ⟨by omega, by omega, by omega, by omega⟩, show ((i : Int) + 1 - 1).toNat = i by omega, show ((k : Int) + 1 - 1).toNat = k by omega]
/-- What has been stored when row i has come to place k. -/
def gpre (M : List (List Int)) (i k : Nat) : Nat → Nat → Int := fun a c => if (a < i ∨ (a = i ∧ c < k)) ∧ c < M.length then mget M a c else 0
theorem gpre_0 (M : List (List Int)) : gpre M 0 0 = fun _ _ => 0 := by
  funext a c; unfold gpre; rw [if_neg (by omega)]
theorem gpre_row (M : List (List Int)) (i : Nat) : gpre M i M.length = gpre M (i + 1) 0 := by
  funext a c; unfold gpre
  by_cases h : c < M.length
  · by_cases h2 : a ≤ i
    · rw [if_pos (by omega), if_pos (by omega)]
    · rw [if_neg (by omega), if_neg (by omega)]
  · rw [if_neg (by omega), if_neg (by omega)]
theorem gpre_set (M : List (List Int)) (i k : Nat) (hk : k < M.length) : kset (gpre M i k) i k (mget M i k) = gpre M i (k + 1) := by
  funext a c; unfold kset gpre
  by_cases h : a = i ∧ c = k
  · obtain ⟨rfl, rfl⟩ := h
    rw [if_pos ⟨rfl, rfl⟩, if_pos (by omega)]
  · rw [if_neg h]
    by_cases h2 : (a < i ∨ (a = i ∧ c < k)) ∧ c < M.length
    · rw [if_pos h2, if_pos (by omega)]
    · rw [if_neg h2, if_neg (by omega)]
theorem gpre_skip (M : List (List Int)) (i k : Nat) (hk : k < M.length) (h0 : mget M i k = 0) : gpre M i k = gpre M i (k + 1) := by
  rw [← gpre_set M i k hk, h0]
  funext a c; unfold kset
  split
  · rename_i h; rw [h.1, h.2]; unfold gpre; rw [if_neg (by omega)]
  · rfl
/-- The whole: what is stored when all rows have come. -/
def gall (M : List (List Int)) : Nat → Nat → Int := gpre M M.length 0
theorem gall_eq (M : List (List Int)) {a c : Nat} (ha : a < M.length) (hc : c < M.length) : gall M a c = mget M a c := by
  unfold gall gpre; rw [if_pos (by omega)]
theorem gall_out (M : List (List Int)) {a c : Nat} (h : ¬ (a < M.length ∧ c < M.length)) : gall M a c = 0 := by
  unfold gall gpre; rw [if_neg (by omega)]
theorem relsP_iff {M : List (List Int)} (h1 : 1 ≤ M.length) (h5 : M.length ≤ 5) (hrow : ∀ j, j < M.length → (M.getD j []).length = M.length ∧ ∀ k, k < M.length → Bts (mget M j k) 0 3) :
    RelsP M ↔ ∀ i k, i < 5 → k < 5 → gall M i k ≠ 0 → i ≠ k ∧ gall M k i = bk (gall M i k) := by
  constructor
  · intro h i k hi hk hg
    by_cases hb : i < M.length ∧ k < M.length
    · rw [gall_eq M hb.1 hb.2] at hg ⊢
      rw [gall_eq M hb.2 hb.1]
      obtain ⟨_, _, e1, e2⟩ := (h.1 i hb.1).2 k hb.2
      exact ⟨fun e => hg (e2 e), e1⟩
    · exact (hg (gall_out M hb)).elim
  · intro h
    refine ⟨fun i hi => ⟨(hrow i hi).1, fun k hk => ⟨(hrow k hk).1, (hrow i hi).2 k hk, ?_, ?_⟩⟩, h1, h5⟩
    · by_cases e : mget M i k = 0
      · rw [e, show bk 0 = 0 from rfl]
        by_cases e' : mget M k i = 0
        · exact e'
        · exfalso
          have := (h k i (by omega) (by omega) (by rw [gall_eq M hk hi]; exact e')).2
          rw [gall_eq M hi hk, gall_eq M hk hi, e] at this
          have hb := (hrow k hk).2 i hi
          unfold Bts at hb
          unfold bk at this
          split at this
          · omega
          · split at this <;> omega
      · have := (h i k (by omega) (by omega) (by rw [gall_eq M hi hk]; exact e)).2
        rw [gall_eq M hi hk, gall_eq M hk hi] at this
        exact this
    · intro e
      by_cases e' : mget M i k = 0
      · exact e'
      · exact ((h i k (by omega) (by omega) (by rw [gall_eq M hi hk]; exact e')).1 e).elim
end Go.Proofs.YtonojegnbcgnaaaDoor
set_option maxRecDepth 100000
set_option linter.unusedSimpArgs false
set_option linter.unusedVariables false
namespace Go.Proofs.YtonojegnbcgnaaaDoor
open Go.RowKit Go.Maps Go.WideMaps

theorem mirror_any (r : Int) (w : World) :
    Calls Tryd.prog 100 #[.int .i64 r] w fun e w' => e = .returned (.int .i64 (bk r)) ∧ Below w.heap.size w w' := by
  by_cases h1 : r = 1
  · subst h1
    go_enter Tryd.func100, Tryd.ntmps100
    go_wp2
    go_ret
    exact ⟨by simp [bk], Below.refl _ _⟩
  by_cases h3 : r = 3
  · subst h3
    go_enter Tryd.func100, Tryd.ntmps100
    go_wp2
    go_ret
    exact ⟨by simp [bk], Below.refl _ _⟩
  have e1 : (r == 1) = false := by simp [h1]
  have e3 : (r == 3) = false := by simp [h3]
  have HB : Hid (bk r = r) := by show bk r = r; simp [bk, h1, h3]
  go_enter Tryd.func100, Tryd.ntmps100
  go_wp2
  go_ret
  exact ⟨by rw [HB.out]; rfl, Below.refl _ _⟩

/-- What readRels hands back. -/
def ReadPost (M : List (List Int)) (w : World) (e : Ending) (w' : World) : Prop :=
  ((RelsP M ∧ ∃ b m D, e = .returned (.tuple #[.agg #[.int .i64 M.length, .map (some b)], .bool true]) ∧ w'.ownsMap Tryd.prog 127 PE b m D ∧ KD D (gall M)) ∨ ¬ RelsP M ∧ e = .returned (.tuple #[.agg #[.int .i64 0, .map none], .bool false])) ∧ Below w.heap.size w w'

set_option maxHeartbeats 2000000 in
theorem readRels_any (v : Value) (M : List (List Int)) (w : World) (hM : Mat w v M) :
    Calls Tryd.prog 66 #[v] w (ReadPost M w) := by
  have hmm := @run_makeMap Tryd.prog
  obtain ⟨n, cap, hn, hnc, hcap, hv⟩ := hM.cases
  by_cases h5 : 1 ≤ n ∧ n ≤ 5
  · obtain ⟨b0, off, rfl⟩ : ∃ b off, v = .slice (some ⟨b, off, none⟩) n cap := by
      rcases hv with ⟨h0, _⟩ | ⟨_, b, off, e⟩
      · omega
      · exact ⟨b, off, e⟩
    obtain ⟨h1, h5⟩ := h5
    have h1' : decide ((n : Int) < 1) = false := by simp; omega
    have h5' : decide (5 < (n : Int)) = false := by simp; omega
    have HM := Lib.hid hM
    clear hM hv
    go_enter Tryd.func66, Tryd.ntmps66
    go_wp2
    have hF := ((Fb.start w).alloc [.int .i64 0, .map none] 87).other (.map #[] 0)
    replace hF := hF.alloc [.int .i64 n, .map (some (w.heap.size + 1))] 87
    simp only [World.size_alloc] at hF
    have hO : (((w.alloc (.cells #[.int .i64 0, .map none] 87)).alloc (.map #[] 0)).alloc (.cells #[.int .i64 n, .map (some (w.heap.size + 1))] 87)).ownsMap Tryd.prog 127 PE (w.heap.size + 1) 0 (.map []) := by
      have := World.ownsMap_made (w.alloc (.cells #[.int .i64 0, .map none] 87)) Tryd.prog 127 PE
      simp only [World.size_alloc] at this
      exact this.alloc _
    go_loopw [26] (fun c wr => ∃ (i m : Nat) (D : DataW Unit), i ≤ n ∧ c = .int .i64 i ∧ Hid (∀ j, j < i → (M.getD j []).length = n ∧ ∀ k, k < n → Bts (mget M j k) 0 3) ∧ m ≤ 5 * i ∧ wr.ownsMap Tryd.prog 127 PE (w.heap.size + 1) m D ∧ KD D (gpre M i 0) ∧ Fb w wr [(w.heap.size + 1 + 1, [.int .i64 n, .map (some (w.heap.size + 1))]), (w.heap.size, [.int .i64 0, .map none])]) (fun c _ => n - (intOf c).toNat)
    case atStart => exact ⟨0, 0, .map [], Nat.zero_le _, rfl, fun j h => by omega, by omega, hO, by rw [gpre_0]; exact KD.nil, hF⟩
    case round =>
      clear hF hO
      obtain ⟨i, m, D, hi, rfl, hrows, hm, hO, hD, hF⟩ := hrel
      have o := hF.own; simp only [World.size_alloc, World.size_drew, World.size_setCell, List.mem_cons, List.not_mem_nil, or_false, forall_eq_or_imp, forall_eq, At, and_true, Nat.zero_add, Nat.reduceAdd, List.set_cons_zero, List.set_cons_succ] at o
      by_cases hlt : i < n
      · obtain ⟨ai, mi, ci, hci0, hmi, hri, hmc, hcc⟩ := HM.out.at (k := i) (by rw [hn.out]; exact hlt)
        have hci := hF.old hci0
        clear hci0
        by_cases hmn : mi = n
        · subst hmn
          obtain ⟨bi, oi, rfl⟩ := hri.some (by omega)
          have HRi := Lib.hid (hri.below (Below.refl _ _))
          clear hri
          go_wp2
          obtain ⟨wo, rfl⟩ : ∃ wo : World, wo = wr := ⟨_, rfl⟩
          go_loopw [39] (fun c wr => ∃ (k m' : Nat) (D' : DataW Unit), k ≤ mi ∧ c = .int .i64 k ∧ Hid (∀ k', k' < k → Bts (mget M i k') 0 3) ∧ m' ≤ 5 * i + k ∧ wr.ownsMap Tryd.prog 127 PE (w.heap.size + 1) m' D' ∧ KD D' (gpre M i k) ∧ Fb w wr [(w.heap.size + 1 + 1, [.int .i64 mi, .map (some (w.heap.size + 1))]), (w.heap.size, [.int .i64 0, .map none])]) (fun c _ => mi - (intOf c).toNat)
          case atStart => exact ⟨0, m, D, Nat.zero_le _, rfl, fun j h => by omega, by omega, hO, hD, hF⟩
          case round =>
            clear hF hO hD o
            obtain ⟨k, m', D', hk, rfl, hbts, hm', hO, hD, hF⟩ := hrel
            have o := hF.own; simp only [World.size_alloc, World.size_drew, World.size_setCell, List.mem_cons, List.not_mem_nil, or_false, forall_eq_or_imp, forall_eq, At, and_true, Nat.zero_add, Nat.reduceAdd, List.set_cons_zero, List.set_cons_succ] at o
            by_cases hlk : k < mi
            · have f3 := hF.old (Ints.getD HRi.out (k := k) (by rw [hmi.out]; exact hlk))
              have e3 : mget M i k = (M.getD i []).getD k 0 := rfl
              rw [← e3] at f3
              clear e3
              have hpst := Lib.hid (gpre_set M i k (by rw [hn.out]; exact hlk))
              have hpsk := Lib.hid (gpre_skip M i k (by rw [hn.out]; exact hlk))
              have hbad := Lib.hid (fun hb : ¬ Bts (mget M i k) 0 3 => fun h : RelsP M => hb (((h.1 i (by rw [hn.out]; exact hlt)).2 k (by rw [hn.out]; exact hlk)).2.1))
              have hgood := Lib.hid (fun hb : Bts (mget M i k) 0 3 => fun k' (hk' : k' < k + 1) => (show Bts (mget M i k') 0 3 from by
                by_cases e : k' = k
                · rw [e]; exact hb
                · exact hbts.out k' (by omega)))
              generalize mget M i k = r at *
              by_cases hr0 : r < 0
              · have d1 : decide (r < 0) = true := by simp [hr0]
                have HF := Lib.hid (hbad.out (by unfold Bts; omega))
                clear hr0
                go_wp2
                exact bodyPost_ret (v := .tuple #[.agg #[.int .i64 0, .map none], .bool false]) (by simp [results, Tryd.results66, go_sem, o]) rfl ⟨Or.inr ⟨HF.out, rfl⟩, (by have kp := hF.kp; repeat (first | (refine Below.setCell ?_ (by dsimp only; omega) _) | apply Below.drew | (refine Below.alloc ?_ (by first | (simp only [World.size_alloc, World.size_setCell, World.size_drew]; omega) | omega) _) | exact kp))⟩
              · have d1 : decide (r < 0) = false := by simp; omega
                by_cases hr3 : 3 < r
                · have d2 : decide (3 < r) = true := by simp [hr3]
                  have HF := Lib.hid (hbad.out (by unfold Bts; omega))
                  clear hr0 hr3
                  go_wp2
                  exact bodyPost_ret (v := .tuple #[.agg #[.int .i64 0, .map none], .bool false]) (by simp [results, Tryd.results66, go_sem, o]) rfl ⟨Or.inr ⟨HF.out, rfl⟩, (by have kp := hF.kp; repeat (first | (refine Below.setCell ?_ (by dsimp only; omega) _) | apply Below.drew | (refine Below.alloc ?_ (by first | (simp only [World.size_alloc, World.size_setCell, World.size_drew]; omega) | omega) _) | exact kp))⟩
                · have d2 : decide (3 < r) = false := by simp; omega
                  have HG := Lib.hid (hgood.out ⟨by omega, by omega⟩)
                  by_cases hz : r = 0
                  · subst hz
                    have HS := Lib.hid (hpsk.out rfl)
                    go_wp2
                    go_roundw
                    case rel => exact ⟨k + 1, m', D', by omega, by go_num, HG, by omega, hO, by rw [← HS.out]; exact hD, hF⟩
                    case measure => simp [intOf]; omega
                  · have hz' : (r != 0) = true := by simp [hz]
                    have HP := Lib.hid (hD.put hO.isMap (i := i) (k := k) (by omega) (by omega) hz)
                    clear hz
                    go_wp2_with (at_mapUpdate; refine wpList_mapUpdate_own _ rfl _ _ _ 85 rfl 127 3 km_keyed Tryd.underlying85 PE (w.heap.size + 1) m' D' rfl hO (lt_maxLen (by omega)) _ _ (kl ((i : Int) + 1) ((k : Int) + 1)) rfl rfl (km_key _ _ (wf_sm (by omega) (by omega)) (wf_sm (by omega) (by omega))) _ [] (plainElem_int Tryd.underlying3 (wf_sm (by omega) (by omega))) ?_; intro w1 hO1 hg1)
                    go_roundw
                    case rel => exact ⟨k + 1, m' + 1, _, by omega, by go_num, HG, by omega, hO1, by rw [← hpst.out]; exact HP.out, hF.turn hg1 (by omega) (by simp)⟩
                    case measure => simp [intOf]; omega
            · obtain rfl : k = mi := by omega
              have hrw : Hid (∀ j, j < i + 1 → (M.getD j []).length = k ∧ ∀ k', k' < k → Bts (mget M j k') 0 3) := fun j hj => by
                by_cases e : j = i
                · rw [e]; exact ⟨hmi.out, hbts.out⟩
                · exact hrows.out j (by omega)
              have hgr := Lib.hid (gpre_row M i)
              go_wp2
              go_roundw
              case rel => exact ⟨i + 1, m', D', by omega, by go_num, hrw, by omega, hO, by rw [← hgr.out, hn.out]; exact hD, hF⟩
              case measure => simp [intOf]; omega
        · have hmn' : ((mi : Int) != (n : Int)) = true := by simp; omega
          have HF := Lib.hid (fun h : RelsP M => hmn (by have := (h.1 i (by rw [hn.out]; exact hlt)).1; rw [hmi.out, hn.out] at this; exact this))
          clear hmn hri
          go_wp2
          exact bodyPost_ret (v := .tuple #[.agg #[.int .i64 0, .map none], .bool false]) (by simp [results, Tryd.results66, go_sem, o]) rfl ⟨Or.inr ⟨HF.out, rfl⟩, (by have kp := hF.kp; repeat (first | (refine Below.setCell ?_ (by dsimp only; omega) _) | apply Below.drew | (refine Below.alloc ?_ (by first | (simp only [World.size_alloc, World.size_setCell, World.size_drew]; omega) | omega) _) | exact kp))⟩
      · obtain rfl : i = n := by omega
        have hiff := Lib.hid (relsP_iff (M := M) (by rw [hn.out]; omega) (by rw [hn.out]; omega) (fun j hj => by rw [hn.out] at hj ⊢; exact hrows.out j hj))
        have hDg : KD D (gall M) := by unfold gall; rw [hn.out]; exact hD
        have hDh := Lib.hid (fun (i k : Nat) (hi : i < 5) (hk : k < 5) (hg : gall M i k ≠ 0) => hDg.has hi hk hg)
        clear hD
        go_wp2_with (at_range; refine wpList_range_own _ rfl _ 85 rfl 127 3 km_keyed Tryd.underlying85 PE (w.heap.size + 1) m D rfl hO ?_; intro w0 hrg0 hg0 hs0; go_frame)
        clear o
        have hlt0 : w.heap.size + 1 + 1 < wr.heap.size := (hF.own (w.heap.size + 1 + 1, _) (List.mem_cons_self ..)).2.2
        replace hF := hF.below (grown_none hg0)
        clear hO hg0
        have HD := Lib.hid hDg
        clear hDg
        obtain ⟨rb, hrb⟩ : ∃ rb, wr.heap.size = rb := ⟨_, rfl⟩
        rw [hrb] at hrg0 hs0 hlt0 ⊢
        clear hrb
        go_loopw [66] (fun _ wq => ∃ (left : Lit → Bool) (cnt : Nat), wq.ranges Tryd.prog 127 PE (w.heap.size + 1) rb m D left cnt ∧ Hid (∀ a c : Nat, a < 5 → c < 5 → gall M a c ≠ 0 → left (kl ((a : Int) + 1) ((c : Int) + 1)) = false → a ≠ c ∧ gall M c a = bk (gall M a c)) ∧ Fb w wq [(w.heap.size + 1 + 1, [.int .i64 i, .map (some (w.heap.size + 1))]), (w.heap.size, [.int .i64 0, .map none])] ∧ rb < wq.heap.size) (fun _ wq => wq.rangeLeft (w.heap.size + 1) rb)
        case atStart => exact ⟨_, _, hrg0, fun a c ha hc hg hl => (by rw [hDh.out a c ha hc hg] at hl; cases hl), hF, by omega⟩
        case round =>
          clear hF hrg0
          obtain ⟨left, cnt, hrg, hchk, hF, hlq⟩ := hrel
          have o := hF.own; simp only [World.size_alloc, World.size_drew, World.size_setCell, List.mem_cons, List.not_mem_nil, or_false, forall_eq_or_imp, forall_eq, At, and_true, Nat.zero_add, Nat.reduceAdd, List.set_cons_zero, List.set_cons_succ] at o
          go_wp2_with (at_next; go_must (refine wpList_next_ranges _ rfl _ rfl 127 km_keyed PE (fun x : Int × Int => .agg #[.int .i64 x.1, .int .i64 x.2]) (Value.int .i64) km_inv (fun v y hv => by obtain ⟨c, rfl, _⟩ := plainElem_int_inv Tryd.underlying3 hv; exact ⟨c, rfl⟩) (w.heap.size + 1) rb m D left cnt rfl hrg ?_ ?_))
          · intro _ hl0
            have HP := Lib.hid (hiff.out.2 (fun a c ha hc hg => hchk.out a c ha hc hg (hl0 _)))
            clear hl0
            go_wp2
            have hF1 : Fb w wr ((w.heap.size, [.int .i64 0, .map none]) :: [(w.heap.size + 1 + 1, [.int .i64 i, .map (some (w.heap.size + 1))])]) := hF.sub (by simp)
            have hF2 := (hF1.set 0 (.int .i64 i) (by simp) (by simp; omega)).set 1 (.map (some (w.heap.size + 1))) (by simp) (by simp; omega)
            have o2 := hF2.own
            simp only [List.mem_cons, List.not_mem_nil, or_false, forall_eq_or_imp, forall_eq, At, and_true, Nat.zero_add, Nat.reduceAdd, List.set_cons_zero, List.set_cons_succ] at o2
            have hO2 := (hrg.owns.kept (grown_set wr ⟨w.heap.size, 0, none⟩ (.int .i64 i)) (by simp)).kept (grown_set _ ⟨w.heap.size, 1, none⟩ (.map (some (w.heap.size + 1)))) (by simp)
            exact bodyPost_ret (v := .tuple #[.agg #[.int .i64 i, .map (some (w.heap.size + 1))], .bool true]) (by simp [results, Tryd.results66, go_sem, o2]) rfl ⟨Or.inl ⟨HP.out, _, m, D, by rw [hn.out], hO2, HD.out⟩, hF2.kp⟩
          · intro x1 x2 c kl0 y ps w1 cnt1 hkey hlk hv hat hrg1 hlt1 hgr hsz hen
            obtain ⟨c', ec, ey, -⟩ := plainElem_int_inv Tryd.underlying3 hv
            injection ec with _ ec; subst ec
            injection ey with ey _; subst ey
            obtain ⟨a1, c1, ha1, hc1, rfl, hg1⟩ := HD.out.2 kl0 (Maps.has_true_of_atKey hat)
            have hxe := km_keyed.inj hkey (km_key ((a1 : Int) + 1) ((c1 : Int) + 1) (wf_sm (by omega) (by omega)) (wf_sm (by omega) (by omega)))
            injection hxe with hxe; injection hxe with hxe; injection hxe with hx1 hx2; injection hx2 with hx2 _
            injection hx1 with _ hx1; injection hx2 with _ hx2
            subst hx1; subst hx2
            have hce : c = gall M a1 c1 := by
              have h1 := (HD.out.1 a1 c1 ha1 hc1 hg1 z0).symm.trans (hat z0)
              injection h1 with h1; injection h1 with _ h1; exact h1.symm
            have HK := Lib.hid hkey
            have hgne := Lib.hid hg1
            clear hv hat hlk hkey hg1
            have hF1 := hF.turn hgr (by omega) (by simp; omega)
            have hFb := hF1.alloc [.int .i64 ((a1 : Int) + 1), .int .i64 ((c1 : Int) + 1)] 127
            have hRx := Lib.hid (fun z : Cl _ (w1.alloc (.cells #[.int .i64 ((a1 : Int) + 1), .int .i64 ((c1 : Int) + 1)] 127)) => (hrg1.alloc (.cells #[.int .i64 ((a1 : Int) + 1), .int .i64 ((c1 : Int) + 1)] 127)).kept (below_grownBy z.below) (by simp) (by simp))
            have hlook := fun z : Cl _ (w1.alloc (.cells #[.int .i64 ((a1 : Int) + 1), .int .i64 ((c1 : Int) + 1)] 127)) => KD.run (hRx.out z).owns HD.out (a := (c1 : Int) + 1) (c := (a1 : Int) + 1) (by omega) (by omega) (by omega) (by omega)
            rw [gi_at (gall M) hc1 ha1] at hlook
            have hoc := fun z : Cl _ (w1.alloc (.cells #[.int .i64 ((a1 : Int) + 1), .int .i64 ((c1 : Int) + 1)] 127)) => (hFb.cl z).own
            simp only [World.size_alloc, World.size_drew, World.size_setCell, List.mem_cons, List.not_mem_nil, or_false, forall_eq_or_imp, forall_eq, At, and_true, Nat.zero_add, Nat.reduceAdd, List.set_cons_zero, List.set_cons_succ] at hoc
            have HFB := Lib.hid (fun z : Cl _ (w1.alloc (.cells #[.int .i64 ((a1 : Int) + 1), .int .i64 ((c1 : Int) + 1)] 127)) => hFb.cl z)
            have hsz1 : rb < w1.heap.size := by omega
            clear hsz
            have hnx := Lib.hid (fun (left' : Lit → Bool) (hl : left' = fun z => left z && !z.sameKey (kl ((a1 : Int) + 1) ((c1 : Int) + 1))) (hgood : a1 ≠ c1 ∧ gall M c1 a1 = bk (gall M a1 c1)) => (show Hid (∀ a c : Nat, a < 5 → c < 5 → gall M a c ≠ 0 → left' (kl ((a : Int) + 1) ((c : Int) + 1)) = false → a ≠ c ∧ gall M c a = bk (gall M a c)) from fun a c ha hc hg h => by
              by_cases e : kl ((a : Int) + 1) ((c : Int) + 1) = kl ((a1 : Int) + 1) ((c1 : Int) + 1)
              · obtain ⟨e1, e2⟩ := kl_inj (wf_sm (by omega) (by omega)) (wf_sm (by omega) (by omega)) (wf_sm (by omega) (by omega)) (wf_sm (by omega) (by omega)) e
                obtain rfl : a = a1 := by omega
                obtain rfl : c = c1 := by omega
                exact hgood
              · refine hchk.out a c ha hc hg ?_
                rw [hl] at h
                by_cases hs : (kl ((a : Int) + 1) ((c : Int) + 1)).sameKey (kl ((a1 : Int) + 1) ((c1 : Int) + 1)) = true
                · exact (e (WideAt.sameKey_eq hs)).elim
                · have : (kl ((a : Int) + 1) ((c : Int) + 1)).sameKey (kl ((a1 : Int) + 1) ((c1 : Int) + 1)) = false := by simpa using hs
                  simpa [this] using h))
            have HOLD := Lib.hid hF
            have HRG := Lib.hid hrg
            have hbad := Lib.hid (fun (h : ¬ (a1 ≠ c1 ∧ gall M c1 a1 = bk (gall M a1 c1))) => fun hp : RelsP M => h (hiff.out.1 hp a1 c1 ha1 hc1 (hgne.out)))
            clear hF hrg hF1 hFb hrg1 hgr o
            rw [← hce] at hbad hnx
            have HCE := Lib.hid hce
            clear hce
            generalize gall M c1 a1 = g2 at hbad hnx hlook
            have hk1 : ((a1 : Int) + 1) ≤ 9 := by omega
            have hk2 : ((c1 : Int) + 1) ≤ 9 := by omega
            by_cases hac : a1 = c1
            · have e1 : (((a1 : Int) + 1) == ((c1 : Int) + 1)) = true := by simp [hac]
              have HF := Lib.hid (hbad.out (fun h => h.1 hac))
              clear hac
              go_wp2
              first | refine wp_region_new (by kernel_rfl) (by kernel_rfl) ?_ | refine wp_region_lex ?_
              repeat (any_goals (first | go_big_quiet_step ((fail)) | (refine wpQuiet_step (fun K hK => ?_); go_simp; split <;> (rename_i hg; refine hK _ ?_; clear hK K; simp only [hg, decide_true, decide_false]))))
              all_goals (refine wpQuiet_nil ?_; intro x)
              have hF := HFB.out x
              have o := hF.own; simp only [World.size_alloc, World.size_drew, World.size_setCell, List.mem_cons, List.not_mem_nil, or_false, forall_eq_or_imp, forall_eq, At, and_true, Nat.zero_add, Nat.reduceAdd, List.set_cons_zero, List.set_cons_succ] at o
              go_wp2
              exact bodyPost_ret (v := .tuple #[.agg #[.int .i64 0, .map none], .bool false]) (by simp [results, Tryd.results66, go_sem, o]) rfl ⟨Or.inr ⟨HF.out, rfl⟩, (by have kp := hF.kp; repeat (first | (refine Below.setCell ?_ (by dsimp only; omega) _) | apply Below.drew | (refine Below.alloc ?_ (by first | (simp only [World.size_alloc, World.size_setCell, World.size_drew]; omega) | omega) _) | exact kp))⟩
            · have e1 : (((a1 : Int) + 1) == ((c1 : Int) + 1)) = false := by simp; omega
              by_cases hgk : g2 = bk c
              · have e2 : (g2 != bk c) = false := by simp [hgk]
                have HN := Lib.hid (hnx.out _ rfl ⟨hac, hgk⟩)
                clear hac hgk
                go_wp2
                first | refine wp_region_new (by kernel_rfl) (by kernel_rfl) ?_ | refine wp_region_lex ?_
                repeat (any_goals (first | go_big_quiet_step (((go_at_call 100; exact Calls.cl (mirror_any _ _)))) | (refine wpQuiet_step (fun K hK => ?_); go_simp; split <;> (rename_i hg; refine hK _ ?_; clear hK K; simp only [hg, decide_true, decide_false]))))
                all_goals (refine wpQuiet_nil ?_; intro x)
                have hF := HFB.out x
                go_wp2
                go_roundw
                case rel => exact ⟨_, cnt1, hRx.out x, HN, hF.rest, by have := x.below.size; simp at this; omega⟩
                case measure => rw [(hRx.out x).left_eq, HRG.out.left_eq]; omega
              · have e2 : (g2 != bk c) = true := by simp [hgk]
                have HF := Lib.hid (hbad.out (fun h => hgk h.2))
                clear hac hgk
                go_wp2
                first | refine wp_region_new (by kernel_rfl) (by kernel_rfl) ?_ | refine wp_region_lex ?_
                repeat (any_goals (first | go_big_quiet_step (((go_at_call 100; exact Calls.cl (mirror_any _ _)))) | (refine wpQuiet_step (fun K hK => ?_); go_simp; split <;> (rename_i hg; refine hK _ ?_; clear hK K; simp only [hg, decide_true, decide_false]))))
                all_goals (refine wpQuiet_nil ?_; intro x)
                have hF := HFB.out x
                have o := hF.own; simp only [World.size_alloc, World.size_drew, World.size_setCell, List.mem_cons, List.not_mem_nil, or_false, forall_eq_or_imp, forall_eq, At, and_true, Nat.zero_add, Nat.reduceAdd, List.set_cons_zero, List.set_cons_succ] at o
                go_wp2
                exact bodyPost_ret (v := .tuple #[.agg #[.int .i64 0, .map none], .bool false]) (by simp [results, Tryd.results66, go_sem, o]) rfl ⟨Or.inr ⟨HF.out, rfl⟩, (by have kp := hF.kp; repeat (first | (refine Below.setCell ?_ (by dsimp only; omega) _) | apply Below.drew | (refine Below.alloc ?_ (by first | (simp only [World.size_alloc, World.size_setCell, World.size_drew]; omega) | omega) _) | exact kp))⟩
  · have hr : ¬ RelsP M := fun h => h5 (by have := h.2; rw [hn.out] at this; exact this)
    have HR := Lib.hid hr
    clear hr
    obtain ⟨ao, rfl⟩ : ∃ ao, v = .slice ao n cap := by
      rcases hv with ⟨_, ao, e⟩ | ⟨_, b, off, e⟩
      · exact ⟨_, e⟩
      · exact ⟨_, e⟩
    clear hM
    by_cases h1 : n < 1
    · have h1' : (n : Int) < 1 := by omega
      go_enter Tryd.func66, Tryd.ntmps66
      go_wp2
      exact bodyPost_ret (v := .tuple #[.agg #[.int .i64 0, .map none], .bool false]) (by simp [results, Tryd.results66, go_sem]) rfl ⟨Or.inr ⟨HR.out, rfl⟩, (by repeat (first | exact Below.refl _ _ | assumption | (refine Below.setCell ?_ (by dsimp only; omega) _) | (refine Below.alloc ?_ (by first | (simp only [World.size_alloc, World.size_setCell, World.size_drew]; omega) | omega) _) | apply Below.drew | (refine Below.trans ?_ (Below.mono (by assumption) (by first | (simp only [World.size_alloc, World.size_setCell, World.size_drew]; omega) | omega)))))⟩
    · have h1' : ¬ (n : Int) < 1 := by omega
      have h5' : 5 < (n : Int) := by omega
      go_enter Tryd.func66, Tryd.ntmps66
      go_wp2
      exact bodyPost_ret (v := .tuple #[.agg #[.int .i64 0, .map none], .bool false]) (by simp [results, Tryd.results66, go_sem]) rfl ⟨Or.inr ⟨HR.out, rfl⟩, (by repeat (first | exact Below.refl _ _ | assumption | (refine Below.setCell ?_ (by dsimp only; omega) _) | (refine Below.alloc ?_ (by first | (simp only [World.size_alloc, World.size_setCell, World.size_drew]; omega) | omega) _) | apply Below.drew | (refine Below.trans ?_ (Below.mono (by assumption) (by first | (simp only [World.size_alloc, World.size_setCell, World.size_drew]; omega) | omega)))))⟩
end Go.Proofs.YtonojegnbcgnaaaDoor
