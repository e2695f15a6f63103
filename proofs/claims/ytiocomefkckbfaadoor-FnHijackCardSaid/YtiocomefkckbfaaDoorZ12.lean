/- A map keyed by seals. A set of seals: add, has, the keys of a row. The keys of a row of seals; SealHas of the program. -/
import Derived.Test.YtiocomefkckbfaaDoorZ11
import Derived.Maps.OwnOps
import Derived.Maps.Views
import Derived.DeepKeys4
import Derived.WideKeyArgs2
import Derived.Maps.OwnSet
set_option linter.unusedSimpArgs false
set_option linter.unusedVariables false
namespace Go.Proofs.YtiocomefkckbfaaDoor
open Go.RowKit Go.Maps Go.WideMaps

theorem ks_laid : laidOutB Tryd.prog = true := by kernel_rfl
theorem ks_row : (63 : TypeId) < Tryd.prog.types.size := of_decide_eq_true (by kernel_rfl)
theorem ks_wide : (match Tryd.prog.underlying 63 with | some (.array _ _) | some (.struct _) => true | _ => false) = true := by kernel_rfl
set_option maxRecDepth 100000 in
theorem ks_law : KeyLaw Tryd.prog 63 := deep_law_laid ks_laid (m := 3) (by omega) ks_row (by kernel_rfl) ks_wide
theorem ks_keyed : Keyed Tryd.prog 63 := Keyed.of_law ks_law
theorem ks_cells : Tryd.prog.cellsOf 63 = 5 := by kernel_rfl
theorem ks_type : Tryd.prog.keyType 63 = true := by kernel_rfl
def sl (b t f n : Int) (p : List UInt8) : Lit := .string (keyBytes [.int .i64 b, .int .i64 t, .int .i64 f, .int .i64 n, .string p])
theorem ks_size : ∃ d, Tryd.prog.types.size + 1 = d + 3 := by
  have h : (63 : Nat) < Tryd.prog.types.size := ks_row
  generalize Tryd.prog.types.size = s at h
  exact ⟨s - 2, by omega⟩
theorem ks_key (b t f n : Int) (p : ByteArray) (hb : (Lit.int .i64 b).wf = true) (ht : (Lit.int .i64 t).wf = true) (hf : (Lit.int .i64 f).wf = true) (hn : (Lit.int .i64 n).wf = true) (hp : p.size ≤ maxLen) : keyOf Tryd.prog 63 (.agg #[.int .i64 b, .int .i64 t, .int .i64 f, .int .i64 n, .string p]) = some (sl b t f n p.data.toList) := by
  have hfm : (Value.agg #[.int .i64 b, .int .i64 t, .int .i64 f, .int .i64 n, .string p]).formed Tryd.prog 63 = true := by
    simp [Value.formed, Tryd.underlying63, ks_cells]
  obtain ⟨d, hd⟩ := ks_size
  have h1 : Tryd.prog.cellsOf 3 = 1 := by kernel_rfl
  have h2 : Tryd.prog.cellsOf 9 = 1 := by kernel_rfl
  have h3 : Tryd.prog.cellsOf 25 = 2 := by kernel_rfl
  unfold keyOf
  simp only [Tryd.underlying63, ks_type, hfm, hd]
  simp [Program.keyLits, Tryd.underlying63, Tryd.underlying25, Tryd.underlying3, Tryd.underlying9, ks_cells, h1, h2, h3, hb, ht, hf, hn, Value.cells, sl, List.mapM_cons, hp]
  rw [if_pos (by intro i hi; match i, hi with | 0, _ => simp | 1, _ => simp)]
  simp
end Go.Proofs.YtiocomefkckbfaaDoor
set_option linter.unusedSimpArgs false
set_option linter.unusedVariables false
namespace Go.Proofs.YtiocomefkckbfaaDoor
open Go.RowKit Go.Maps Go.WideMaps

noncomputable abbrev PS : Value → Option (DataW Unit × List MemPlace) := unitElem (H := Unit)
/-- The numbers of a seal are small. -/
def SmS (s : Sl) : Prop := (-1000000 ≤ s.1 ∧ s.1 ≤ 1000000) ∧ (-1000000 ≤ s.2.1 ∧ s.2.1 ≤ 1000000) ∧ (-1000000 ≤ s.2.2.1 ∧ s.2.2.1 ≤ 1000000) ∧ (-1000000 ≤ s.2.2.2.1 ∧ s.2.2.2.1 ≤ 1000000) ∧ s.2.2.2.2.length ≤ 1000 ∧ ∀ x ∈ s.2.2.2.2, -1000000 ≤ x ∧ x ≤ 1000000
def skl (s : Sl) : Lit := sl s.1 s.2.1 s.2.2.1 s.2.2.2.1 (kts s.2.2.2.2)
def sval (s : Sl) : Value := .agg #[.int .i64 s.1, .int .i64 s.2.1, .int .i64 s.2.2.1, .int .i64 s.2.2.2.1, .string (kt s.2.2.2.2)]
theorem wf_s {n : Int} (h : -1000000 ≤ n ∧ n ≤ 1000000) : (Lit.int .i64 n).wf = true := WalkArith.wf_i64 (by omega)
theorem skl_key {s : Sl} (h : SmS s) : keyOf Tryd.prog 63 (sval s) = some (skl s) := by
  have := kt_size s.2.2.2.2 h.2.2.2.2.2
  have h5 := h.2.2.2.2.1
  exact ks_key s.1 s.2.1 s.2.2.1 s.2.2.2.1 (kt s.2.2.2.2) (wf_s h.1) (wf_s h.2.1) (wf_s h.2.2.1) (wf_s h.2.2.2.1) (by unfold maxLen; omega)
theorem skl_inj {s t : Sl} (hs : SmS s) (ht : SmS t) (h : skl s = skl t) : s = t := by
  have h1 := skl_key hs
  have h2 := skl_key ht
  rw [h] at h1
  have := ks_keyed.inj h1 h2
  unfold sval at this
  obtain ⟨a, b, c, d, p⟩ := s
  obtain ⟨a', b', c', d', p'⟩ := t
  simp only [Value.agg.injEq, Array.mk.injEq, List.cons.injEq, Value.int.injEq, Value.string.injEq, and_true, true_and] at this
  obtain ⟨e1, e2, e3, e4, e5⟩ := this
  rw [e1, e2, e3, e4, kt_inj e5]
/-- The set D holds just the seals of L. -/
def KS (D : DataW Unit) (L : List Sl) : Prop := ∀ s, SmS s → Maps.has D (skl s) = decide (s ∈ L)
theorem KS.nil : KS (.map []) [] := fun s _ => by simp [Maps.has_eq]
theorem KS.put {D : DataW Unit} {L : List Sl} (h : KS D L) (hD : Maps.IsMap D) {x : Sl} (hx : SmS x) : KS (D.put (skl x) (.agg [])) (L ++ [x]) := fun s hs => by
  by_cases e : s = x
  · subst e
    rw [Maps.has_put_same hD (ks_keyed.key (skl_key hs))]; simp
  · rw [Maps.has_put_other (fun q => e (skl_inj hs hx q)), h s hs]; simp [e]
theorem unit_zero (w : World) : (zeroValue 82).run Tryd.prog w = .ok (.agg #[]) w := by kernel_rfl

theorem grown_al {w w' : World} {b : Nat} (o : Obj) (h : (w.alloc o).grownBy w' (some b)) : w.grownBy w' (some b) := ⟨h.os, h.tape, h.output, by have := h.size; simp at this; omega, fun k hk hne => (h.block k (by simp; omega) hne).trans (Below.heap_alloc w o k hk)⟩
theorem add_any (s : Sl) (b n : Nat) (D : DataW Unit) (w : World) (hO : w.ownsMap Tryd.prog 63 PS b n D) (hs : SmS s) (hn : n ≤ 1000000) :
    Calls Tryd.prog 56 #[.map (some b), .agg #[.int .i64 s.1, .int .i64 s.2.1, .int .i64 s.2.2.1, .int .i64 s.2.2.2.1, .string (kt s.2.2.2.2)]] w fun e w' => e = .returned (.tuple #[]) ∧ w'.ownsMap Tryd.prog 63 PS b (n + 1) (D.put (skl s) (.agg [])) ∧ w.grownBy w' (some b) := by
  have hk := skl_key hs
  unfold sval at hk
  have hF := (Fb.start w).alloc [.int .i64 s.1, .int .i64 s.2.1, .int .i64 s.2.2.1, .int .i64 s.2.2.2.1, .string (kt s.2.2.2.2)] 63
  have hO1 := hO.alloc (.cells #[.int .i64 s.1, .int .i64 s.2.1, .int .i64 s.2.2.1, .int .i64 s.2.2.2.1, .string (kt s.2.2.2.2)] 63)
  have HK := Lib.hid hk
  clear hk hs hO
  have o := hF.own; simp only [World.size_alloc, World.size_drew, World.size_setCell, List.mem_cons, List.not_mem_nil, or_false, forall_eq_or_imp, forall_eq, At, and_true, Nat.zero_add, Nat.reduceAdd, List.set_cons_zero, List.set_cons_succ] at o
  go_enter Tryd.func56, Tryd.ntmps56
  go_wp2_with (at_mapUpdate; refine wpList_mapUpdate_own _ rfl _ _ _ 59 rfl 63 82 ks_keyed Tryd.underlying59 PS b n D rfl hO1 (lt_maxLen (by omega)) _ _ (skl s) rfl rfl HK.out _ [] unitElem_mk ?_; intro w1 hO2 hg1)
  go_end0
  exact ⟨rfl, hO2, grown_al _ hg1⟩
theorem has_any2 (s : Sl) (b n : Nat) (D : DataW Unit) (L : List Sl) (w : World) (hO : w.ownsMap Tryd.prog 63 PS b n D) (hD : KS D L) (hs : SmS s) :
    Calls Tryd.prog 34 #[.map (some b), .agg #[.int .i64 s.1, .int .i64 s.2.1, .int .i64 s.2.2.1, .int .i64 s.2.2.2.1, .string (kt s.2.2.2.2)]] w fun e w' => e = .returned (.bool (decide (s ∈ L))) ∧ Below w.heap.size w w' := by
  have hk := skl_key hs
  unfold sval at hk
  have hF := (Fb.start w).alloc [.int .i64 s.1, .int .i64 s.2.1, .int .i64 s.2.2.1, .int .i64 s.2.2.2.1, .string (kt s.2.2.2.2)] 63
  have hO1 := hO.alloc (.cells #[.int .i64 s.1, .int .i64 s.2.1, .int .i64 s.2.2.1, .int .i64 s.2.2.2.1, .string (kt s.2.2.2.2)] 63)
  have HK := Lib.hid hk
  have HD := Lib.hid (hD s hs)
  clear hk hs hO hD
  have o := hF.own; simp only [World.size_alloc, World.size_drew, World.size_setCell, List.mem_cons, List.not_mem_nil, or_false, forall_eq_or_imp, forall_eq, At, and_true, Nat.zero_add, Nat.reduceAdd, List.set_cons_zero, List.set_cons_succ] at o
  go_enter Tryd.func34, Tryd.ntmps34
  go_wp2_with (at_lookup; refine wpList_lookup_own_unit _ rfl _ _ 59 rfl 63 82 ks_keyed Tryd.underlying59 (unit_zero _) b n D rfl hO1 _ (skl s) rfl HK.out ?_)
  go_ret
  exact ⟨by rw [← HD.out]; rfl, (hF.other _).kp⟩
end Go.Proofs.YtiocomefkckbfaaDoor
set_option linter.unusedSimpArgs false
set_option linter.unusedVariables false
namespace Go.Proofs.YtiocomefkckbfaaDoor
open Go.RowKit Go.Maps Go.WideMaps

theorem below_grown2 {W w w' : World} {b : Nat} (h : Below W.heap.size W w) (hg : w.grownBy w' (some b)) (hb : W.heap.size ≤ b) : Below W.heap.size W w' :=
  ⟨hg.os.trans h.os, hg.tape.trans h.tape, hg.output.trans h.output, Nat.le_trans h.size hg.size, fun i hi => (hg.block i (Nat.lt_of_lt_of_le hi h.size) (fun e => by injection e; omega)).trans (h.block i hi)⟩
theorem KS.cast {D : DataW Unit} {L K : List Sl} (h : KS D L) (e : L = K) : KS D K := e ▸ h
set_option maxHeartbeats 4000000 in
theorem keysOf_any (v : Value) (L : List Sl) (w : World) (h : Sls w v L) (hL : L.length ≤ 100000) (hs : ∀ s ∈ L, SmS s) (hT : Tab w) :
    Calls Tryd.prog 33 #[v] w fun e w' => ∃ b n D, e = .returned (.map (some b)) ∧ w'.ownsMap Tryd.prog 63 PS b n D ∧ KS D L ∧ Below w.heap.size w w' := by
  have hmm := @run_makeMap Tryd.prog
  obtain ⟨ao, n, cap, rfl, hn, hnc, hcap⟩ := h.sl
  have HL := Lib.hid h
  have HT := Lib.hid hT
  have HS := Lib.hid hs
  have hO : (w.alloc (.map #[] 0)).ownsMap Tryd.prog 63 PS w.heap.size 0 (.map []) := World.ownsMap_made w Tryd.prog 63 PS
  have hB := (Below.refl w.heap.size w).alloc (Nat.le_refl _) (.map #[] 0)
  have hn9 : n ≤ 100000 := by rw [← hn.out]; exact hL
  clear h hs hT hL
  go_enter Tryd.func33, Tryd.ntmps33
  go_wp2
  go_loopw [9] (fun i wr => ∃ (k : Nat) (D : DataW Unit), k ≤ n ∧ i = .int .i64 k ∧ wr.ownsMap Tryd.prog 63 PS w.heap.size k D ∧ Hid (KS D (L.take k)) ∧ Below w.heap.size w wr ∧ w.heap.size < wr.heap.size) (fun i _ => n - (intOf i).toNat)
  case atStart => exact ⟨0, .map [], Nat.zero_le _, rfl, hO, KS.nil, hB, by simp⟩
  case round =>
    clear hO hB
    obtain ⟨k, D, hk, rfl, hO, hD, hB, hlt0⟩ := hrel
    by_cases hlt : k < n
    · obtain ⟨b1, o1, rfl⟩ := HL.out.adr (by omega)
      obtain ⟨s, hsk⟩ := get_of hn.out hlt
      obtain ⟨a1, m1, k1, e0, e1, e2, e3, e4, g1⟩ := (HL.out.below hB).at hsk
      have hsm := Lib.hid (HS.out s (List.mem_of_getElem? hsk))
      have hDn := Lib.hid ((hD.out.put hO.isMap hsm.out).cast (take_succ' hsk).symm)
      have HG := Lib.hid g1
      clear hsk g1
      go_wp2_with fail
      refine (key_any s.1 s.2.1 s.2.2.1 s.2.2.2.1 _ s.2.2.2.2 _ (Rows.alloc HG.out _) hsm.out.2.2.2.2.2 (tab_below HT.out (hB.trans (((Below.refl _ _).alloc (Nat.le_refl _) _).mono hB.size))) hsm.out.2.2.2.2.1).mono ?_; rintro e wx ⟨rfl, hbx⟩
      replace hO := (hO.alloc (.cells #[.int .i64 s.1, .int .i64 s.2.1, .int .i64 s.2.2.1, .int .i64 s.2.2.2.1, .slice a1 m1 k1] 28)).kept (below_grownBy hbx) (by simp)
      replace hB := hB.trans ((((Below.refl _ _).alloc (Nat.le_refl _) _).trans (hbx.mono (by simp))).mono hB.size)
      have hsx := hbx.size
      simp only [World.size_alloc] at hsx
      clear hbx e0 e1 e2 e3 e4
      go_wp2_with fail
      refine (add_any s w.heap.size k D _ hO hsm.out (by omega)).mono ?_; rintro e wy ⟨rfl, hO2, hg⟩
      replace hB := below_grown2 hB hg (Nat.le_refl _)
      have hsy := hg.size
      clear hg hO
      go_wp2
      go_roundw
      case rel => exact ⟨k + 1, _, by omega, by go_num, hO2, hDn, hB, by omega⟩
      case measure => simp [intOf]; omega
    · have hkn : Hid (L.take k = L) := List.take_of_length_le (by rw [hn.out]; omega)
      go_wp2
      go_ret
      exact ⟨_, _, D, rfl, hO, by rw [← hkn.out]; exact hD.out, hB⟩
end Go.Proofs.YtiocomefkckbfaaDoor
